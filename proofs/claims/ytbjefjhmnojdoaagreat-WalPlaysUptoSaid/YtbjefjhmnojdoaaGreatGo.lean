/- A flat machine over the pure semantics, with one equation a form of code: for walking through a function by rewriting. -/
import Derived.Test.YtbjefjhmnojdoaaGreatDefs
namespace Ps
open Go
def jH(c d:bS):Prop:=∀f args S r,c f args S=some r→d f args S=some r
theorem aCw{c d:bS}(h:jH c d){keep:Bool}{S:St}{f:Nat}{args:List PV}{r:PV×St}(e:pN keep S (c f args S)=some r):pN keep S (d f args S)=some r:=by
 cases hc:c f args S with
 |none=>rw[hc]at e;cases e
 |some q=>rw[hc]at e;rw[h _ _ _ _ hc];exact e
theorem aCx{c d:bS}(h:jH c d){f:Nat}{args:List PV}{r:PV}(e:jb c f args=some r):jb d f args=some r:=by
 unfold jb at e ⊢;split at e
 ·rename_i hf;rw[if_pos hf]
  cases hc:c f (PV.frzL args) bk with
  |none=>rw[hc]at e;cases e
  |some q=>rw[hc]at e;rw[h _ _ _ _ hc];exact e
 ·cases e
theorem aCy{c d:bS}(h:jH c d){f:Nat}{args:List PV}{S:St}{r:PV}(e:nZ c f args S=some r):nZ d f args S=some r:=by
 unfold nZ at e ⊢
 cases hs:cr (bQ S.objs 0 eM) args with
 |none=>rw[hs]at e;cases e
 |some as=>
  rw[hs]at e;simp only at e ⊢
  cases hc:c f (PV.frzL as) bk with
  |none=>rw[hc]at e;cases e
  |some q=>rw[hc]at e;rw[h _ _ _ _ hc];exact e
theorem Db{c d:bS}(h:jH c d){m:CM}{f:Nat}{args:List PV}{S:St}{r:PV×St}(e:cd c m f args S=some r):cd d m f args S=some r:=by
 cases m with
 |std=>exact h _ _ _ _ e
 |keep=>exact aCw h e
 |pur=>
  simp only[cd]at e ⊢
  cases hc:jb c f args with
  |none=>rw[hc]at e;cases e
  |some q=>rw[hc]at e;rw[aCx h hc];exact e
 |snap=>
  simp only[cd]at e ⊢
  cases hc:nZ c f args S with
  |none=>rw[hc]at e;cases e
  |some q=>rw[hc]at e;rw[aCy h hc];exact e
theorem uZ{T:bH}{c d:bS}(h:jH c d){fr:Fr}{S:St}{op:cK}{r:PV×St}(e:aI T c fr S op=some r):aI T d fr S op=some r:=by
 cases op
 case call m f xs=>simp only[aI]at e ⊢;exact Db h e
 case callv m x xs=>
  simp only[aI]at e ⊢;cases hx:ev fr x<;>rw[hx]at e<;>first|exact Db h e|cases e
 case inv cm m x xs=>
  simp only[aI]at e ⊢;cases hx:ev fr x<;>rw[hx]at e<;>try (cases e;done)
  rename_i t v;simp only at e ⊢
  cases hm:T.meth t m with
  |none=>rw[hm]at e;cases e
  |some f=>rw[hm]at e;exact Db h e
 case callb b f xs=>
  simp only[aI]at e ⊢;cases hx:fr b<;>rw[hx]at e<;>try (cases e;done)
  simp only at e ⊢
  cases hc:c f (xs.map (ev fr)) S with
  |none=>rw[hc]at e;cases e
  |some q=>rw[hc]at e;rw[h _ _ _ _ hc];exact e
 case load ag n mix x=>cases mix<;>simpa only[aI]using e
 all_goals simpa only[aI]using e
theorem kJ{T:bH}{c d:bS}(h:jH c d):∀{l:List aF} {fr:Fr} {S:St} {r:Fr×St},bf T c l fr S=some r→bf T d l fr S=some r
 | [],_,_,_,e=>e
 |o::l,fr,S,r,e=>by
  simp only[bf]at e ⊢
  cases hw:eG fr o.guard with
  |none=>rw[hw]at e;cases e
  |some b=>
   rw[hw]at e
   cases b with
   |false=>exact kJ h e
   |true=>
    simp only at e ⊢
    cases hp:aI T c fr S o.op with
    |none=>rw[hp]at e;cases e
    |some q=>
     obtain⟨v,S'⟩:=q;rw[hp]at e;rw[uZ h hp];exact kJ h e
theorem yk{it it':PV→PV→Fr→St→Option (Fr×St)}(h:∀k v fr S r,it k v fr S=some r→it' k v fr S=some r):∀{l:List (PV×PV)} {fr:Fr} {S:St} {r:Fr×St},iS it l fr S=some r→iS it' l fr S=some r
 | [],_,_,_,e=>e
 |(k,v)::l,fr,S,r,e=>by
  simp only[iS]at e ⊢
  cases hp:it k v fr S with
  |none=>rw[hp]at e;cases e
  |some q=>rw[hp]at e;rw[h _ _ _ _ _ hp];exact yk h e
theorem aCz{α:Type}{p l:List α}(h:p.Perm l)(hl:l.length≤1):p=l:=by
 match l,hl with
 | [],_=>exact h.eq_nil
 | [x],_=>exact List.perm_singleton.1 h
theorem yl{it:PV→PV→Fr→St→Option (Fr×St)}{l:List (PV×PV)}{fr:Fr}{S:St}{r:Fr×St}:uO it l fr S=some r↔∀p:List (PV×PV),p.Perm l→iS it p fr S=some r:=by
  unfold uO;constructor
  · intro e p hp
    cases hr:iS it l fr S with
    |none=>rw[hr]at e;cases e
    |some q=>
      rw[hr]at e;simp only at e;split at e
      · rename_i h1;cases e;rw[aCz hp h1];exact hr
      · split at e
        · rename_i h2;cases e;exact h2 p hp
        · cases e
  · intro h
    rw[h l (vw _)];simp only;split
    · rfl
    · first
      |rfl
      | (split
         · rfl
         · rename_i h2;exact absurd h h2)
theorem aCA{it it':PV→PV→Fr→St→Option (Fr×St)}(h:∀k v fr S r,it k v fr S=some r→it' k v fr S=some r){l:List (PV×PV)}{fr:Fr}{S:St}{r:Fr×St}(e:uO it l fr S=some r):uO it' l fr S=some r:=
 yl.2 fun p hp=>yk h (yl.1 e p hp)
theorem Dc{T:bH}{c d:bS}(h:jH c d){run run':Fr→St→Option (Ex×Fr×St)}(hr:∀fr S r,run fr S=some r→run' fr S=some r){id:Nat}{cs:List PV}{en:Nat}{post:List aF}{l:List (Nat×Nat)}{k v:PV}{fr:Fr}{S:St}{r:Fr×St}
  (e:iD T c run id cs en post l k v fr S=some r):iD T d run' id cs en post l k v fr S=some r:=by
 unfold iD at e ⊢
 cases hp:bf T c post (aw fr (some en) (.tup [k,v])) S with
 |none=>rw[hp]at e;cases e
 |some q=>
  obtain⟨fr2,S2⟩:=q;rw[hp]at e;rw[kJ h hp];simp only at e ⊢
  cases hb:run fr2 S2 with
  |none=>rw[hb]at e;cases e
  |some q=>rw[hb]at e;rw[hr _ _ _ hb];exact e
theorem ua{T:bH}{c d:bS}(h:jH c d){run run':Fr→St→Option (Ex×Fr×St)}(hr:∀fr S r,run fr S=some r→run' fr S=some r){x:aM}{en:Nat}{post:List aF}{l:List (Nat×Nat)}{fr:Fr}{S:St}{r:Fr×St}
  (e:iE T c run x en post l fr S=some r):iE T d run' x en post l fr S=some r:=by
 unfold iE at e ⊢;cases hx:ev fr x<;>rw[hx]at e<;>try (cases e;done)
 rename_i id;simp only at e ⊢
 cases hc:S.objs[id]? with
 |none=>rw[hc]at e;cases e
 |some cs=>
  rw[hc]at e;exact aCA (fun k v fr S r=>Dc h hr) e
theorem jf{T:bH}{c d:bS}(h:jH c d):∀{k j:Nat} {code:az} {fr:Fr} {S:St} {r:Ex×Fr×St},k≤j→bI T c k code fr S=some r→bI T d j code fr S=some r:=by
 intro k
 induction k with
 |zero=>intro j code fr S r _ e;simp[bI]at e
 |succ k ih=>
  intro j code fr S r hkj e;obtain⟨j,rfl⟩:∃i,j=i+1:=⟨j-1,by omega⟩;have hkj':k≤j:=by omega
  cases code with
  |skip=>exact e
  |ret=>exact e
  |exit n=>exact e
  |bad=>simp[bI]at e
  |region ops=>
   simp only[bI]at e ⊢
   cases hp:bf T c ops fr S with
   |none=>rw[hp]at e;cases e
   |some q=>rw[hp]at e;rw[kJ h hp];exact e
  |seq a b=>
   simp only[bI]at e ⊢
   cases hp:bI T c k a fr S with
   |none=>rw[hp]at e;cases e
   |some q=>
    obtain⟨ex,fr1,S1⟩:=q;rw[hp]at e;rw[ih hkj' hp]
    cases ex with
    |norm=>exact ih hkj' e
    |exit n=>exact e
    |ret=>exact e
  |cond x a b=>
   simp only[bI]at e ⊢;cases hx:ev fr x<;>rw[hx]at e<;>try (cases e;done)
   rename_i q
   cases q<;>exact ih hkj' e
  |block n b=>
   simp only[bI]at e ⊢
   cases hp:bI T c k b fr S with
   |none=>rw[hp]at e;cases e
   |some q=>
    rw[hp]at e;rw[ih hkj' hp];exact e
  |scope b=>
   simp only[bI]at e ⊢
   exact ih hkj' e
  |clr l b=>
   simp only[bI]at e ⊢
   cases hp:bI T c k b fr S with
   |none=>rw[hp]at e;cases e
   |some q=>rw[hp]at e;rw[ih hkj' hp];exact e
  |rng pre x en post l b=>
   simp only[bI]at e ⊢
   cases hp:bf T c pre fr S with
   |none=>rw[hp]at e;cases e
   |some q=>
    obtain⟨fr1,S1⟩:=q;rw[hp]at e;rw[kJ h hp];simp only at e ⊢
    cases hr:iE T c (fun fr S=>bI T c k b fr S) x en post l fr1 S1 with
    |none=>rw[hr]at e;cases e
    |some q=>
     rw[hr]at e;rw[ua h (fun _ _ _ e=>ih hkj' e) hr]
     exact e
  |loop b=>
   simp only[bI]at e ⊢
   cases hp:bI T c k b fr S with
   |none=>rw[hp]at e;cases e
   |some q=>
    obtain⟨ex,fr1,S1⟩:=q;rw[hp]at e;rw[ih hkj' hp]
    cases ex with
    |norm=>exact ih hkj' e
    |exit n=>exact e
    |ret=>exact e
theorem Vq{T:bH}{c d:bS}(h:jH c d){k j:Nat}(hkj:k≤j):∀{l:List az} {fr:Fr} {S:St} {r:Fr×St},ng T c k l fr S=some r→ng T d j l fr S=some r
 | [],_,_,_,e=>e
 |p::l,fr,S,r,e=>by
  simp only[ng]at e ⊢
  cases hp:bI T c k p fr S with
  |none=>rw[hp]at e;cases e
  |some q=>
   rw[hp]at e;rw[jf h hkj hp];obtain⟨x,fr1,S1⟩:=q
   cases x with
   |norm=>exact Vq h hkj e
   |exit m=>cases e
   |ret=>cases e
theorem Vr{c d:bS}(h:jH c d){cf:Nat}{caps:List PV}{fr:Fr}{S:St}{r:Fr×St}(e:pP c cf caps fr S=some r):pP d cf caps fr S=some r:=by
 unfold pP at e ⊢
 cases hc:c cf caps S with
 |none=>rw[hc]at e;cases e
 |some q=>rw[hc]at e;rw[h _ _ _ _ hc];exact e
theorem aCB{T:bH}{c d:bS}(h:jH c d){k j:Nat}(hkj:k≤j){f:rI}{fr:Fr}{S:St}{r:Fr×St}(e:rJ T c k f fr S=some r):rJ T d j f fr S=some r:=by
 unfold rJ at e ⊢
 cases hp:ng T c k f.pre fr S with
 |none=>rw[hp]at e;cases e
 |some q=>
  obtain⟨fr1,S1⟩:=q;rw[hp]at e;rw[Vq h hkj hp];simp only at e ⊢
  cases ho:bf T c [f.clo] fr1 S1 with
  |none=>rw[ho]at e;cases e
  |some q=>
   obtain⟨fr2,S2⟩:=q;rw[ho]at e;rw[kJ h ho];simp only at e ⊢;cases ht:fr2 f.t<;>rw[ht]at e<;>try (cases e;done)
   rename_i cf caps;simp only at e ⊢;split at e
   ·rename_i hcf;rw[if_pos hcf]
    cases hr:bI T c k f.rest fr2 S2 with
    |none=>rw[hr]at e;cases e
    |some q=>
     obtain⟨x,fr3,S3⟩:=q;rw[hr]at e;rw[jf h hkj hr]
     cases x with
     |norm=>exact Vr h e
     |exit m=>cases e
     |ret=>exact Vr h e
   ·cases e
theorem eq(T:bH):∀{k j:Nat},k≤j→jH (bY T k) (bY T j):=by
 intro k
 induction k with
 |zero=>intro j _ f args S r e;simp[bY]at e
 |succ k ih=>
  intro j hkj f args S r e;obtain⟨j,rfl⟩:∃i,j=i+1:=⟨j-1,by omega⟩;simp only[bY]at e ⊢
  cases hf:T.fn f with
  |none=>rw[hf]at e;cases e
  |some pf=>
   rw[hf]at e
   cases pf with
   |indexByte=>exact e
   |ext _=>exact e
   |exs _=>exact e
   |codeD c=>
    simp only at e ⊢;split at e
    ·rename_i ha;rw[if_pos ha]
     cases hp:rJ T (bY T k) k c (gV args) S with
     |none=>rw[hp]at e;cases e
     |some q=>
      rw[hp]at e;rw[aCB (ih (by omega:k≤j)) (by omega) hp];exact e
    ·cases e
   |code c=>
    simp only at e ⊢;split at e
    ·rename_i ha;rw[if_pos ha]
     cases hp:bI T (bY T k) k c.body (gV args) S with
     |none=>rw[hp]at e;cases e
     |some q=>
      rw[hp]at e;rw[jf (ih (by omega:k≤j)) (by omega) hp];exact e
    ·cases e
inductive Kt where
 |code (c:az)
 |ops (l:List aF)
 |blk (n:Nat)
 |lp (b:az)
 |clr (l:List (Nat×Nat))
 |rg (x:aM) (en:Nat) (post:List aF) (l:List (Nat×Nat)) (b:az)
def im(n:Nat):List Kt→Option (List Kt)
 | []=>none
 |.blk m::K=>if n=m then some K else im n K
 |_::K=>im n K
noncomputable def ay (T:bH):Nat→List Kt→Fr→St→Option (Fr×St)
 |0,_,_,_=>none
 |_+1,[],fr,S=>some (fr,S)
 |k+1,.code .skip::K,fr,S=>ay T k K fr S
 |_+1,.code .ret::_,fr,S=>some (fr,S)
 |k+1,.code (.exit n)::K,fr,S=>match im n K with|some K'=>ay T k K' fr S|none=>none
 |k+1,.code (.region l)::K,fr,S=>ay T k (.ops l::K) fr S
 |k+1,.code (.seq a b)::K,fr,S=>ay T k (.code a::.code b::K) fr S
 |k+1,.code (.cond c t e)::K,fr,S=>match ev fr c with
  |.bool true=>ay T k (.code t::K) fr S
  |.bool false=>ay T k (.code e::K) fr S
  |_=>none
 |k+1,.code (.block n b)::K,fr,S=>ay T k (.code b::.blk n::K) fr S
 |k+1,.code (.loop b)::K,fr,S=>ay T k (.lp b::K) fr S
 |_+1,.code .bad::_,_,_=>none
 |k+1,.lp b::K,fr,S=>ay T k (.code b::.lp b::K) fr S
 |k+1,.code (.clr l b)::K,fr,S=>ay T k (.code b::.clr l::K) fr S
 |k+1,.code (.scope b)::K,fr,S=>ay T k (.code b::K) fr S
 |k+1,.clr l::K,fr,S=>ay T k K (clrs l fr) S
 |k+1,.code (.rng pre x en post l b)::K,fr,S=>ay T k (.ops pre::.rg x en post l b::K) fr S
 |k+1,.rg x en post l b::K,fr,S=>match iE T (bY T k) (fun fr S=>bI T (bY T k) k b fr S) x en post l fr S with
  |some (fr',S')=>ay T k K fr' S'
  |none=>none
 |k+1,.blk _::K,fr,S=>ay T k K fr S
 |k+1,.ops []::K,fr,S=>ay T k K fr S
 |k+1,.ops (o::l)::K,fr,S=>match eG fr o.guard with
  |none=>none
  |some false=>ay T k (.ops l::K) (aw fr o.dst (.tup [])) S
  |some true=>match aI T (bY T k) fr S o.op with
   |some (v,S')=>ay T k (.ops l::K) (aw fr o.dst v) S'
   |none=>none
theorem Dd(T:bH):∀{k j:Nat} {K:List Kt} {fr:Fr} {S:St} {r:Fr×St},k≤j→ay T k K fr S=some r→ay T j K fr S=some r:=by
 intro k
 induction k with
 |zero=>intro j K fr S r _ e;simp[ay]at e
 |succ k ih=>
  intro j K fr S r hkj e;obtain⟨j,rfl⟩:∃i,j=i+1:=⟨j-1,by omega⟩;have hk:k≤j:=by omega
  match K with
  | []=>exact e
  |.code .skip::K=>simp only[ay]at e ⊢;exact ih hk e
  |.code .ret::_=>exact e
  |.code (.exit n)::K=>
   simp only[ay]at e ⊢
   cases hx:im n K with
   |none=>rw[hx]at e;cases e
   |some K'=>rw[hx]at e;exact ih hk e
  |.code (.region l)::K=>simp only[ay]at e ⊢;exact ih hk e
  |.code (.seq a b)::K=>simp only[ay]at e ⊢;exact ih hk e
  |.code (.cond c t el)::K=>
   simp only[ay]at e ⊢;cases hx:ev fr c<;>rw[hx]at e<;>try (cases e;done)
   rename_i q
   cases q<;>exact ih hk e
  |.code (.block n b)::K=>simp only[ay]at e ⊢;exact ih hk e
  |.code (.loop b)::K=>simp only[ay]at e ⊢;exact ih hk e
  |.code .bad::K=>simp[ay]at e
  |.lp b::K=>simp only[ay]at e ⊢;exact ih hk e
  |.blk n::K=>simp only[ay]at e ⊢;exact ih hk e
  |.code (.clr l b)::K=>simp only[ay]at e ⊢;exact ih hk e
  |.code (.scope b)::K=>simp only[ay]at e ⊢;exact ih hk e
  |.clr l::K=>simp only[ay]at e ⊢;exact ih hk e
  |.code (.rng pre x en post l b)::K=>simp only[ay]at e ⊢;exact ih hk e
  |.rg x en post l b::K=>
   simp only[ay]at e ⊢
   cases hr:iE T (bY T k) (fun fr S=>bI T (bY T k) k b fr S) x en post l fr S with
   |none=>rw[hr]at e;cases e
   |some q=>
    obtain⟨fr',S'⟩:=q;rw[hr]at e;rw[ua (eq T hk) (fun _ _ _ e=>jf (eq T hk) hk e) hr]
    exact ih hk e
  |.ops []::K=>simp only[ay]at e ⊢;exact ih hk e
  |.ops (o::l)::K=>
   simp only[ay]at e ⊢
   cases hw:eG fr o.guard with
   |none=>rw[hw]at e;cases e
   |some b=>
    rw[hw]at e
    cases b with
    |false=>exact ih hk e
    |true=>
     simp only at e ⊢
     cases hp:aI T (bY T k) fr S o.op with
     |none=>rw[hp]at e;cases e
     |some q=>
      obtain⟨v,S'⟩:=q;rw[hp]at e;rw[uZ (eq T hk) hp];exact ih hk e
open Classical in
noncomputable def rS {α:Type}(f:Nat→Option α):Option α:=if h:∃k x,f k=some x then f (Classical.choose h)else none
def ym{α:Type}(f:Nat→Option α):Prop:=∀k j x,k≤j→f k=some x→f j=some x
theorem De{α:Type}{f:Nat→Option α}(hm:ym f){x:α}:rS f=some x↔∃k,f k=some x:=by
 constructor
 ·intro h;unfold rS at h;split at h
  ·exact⟨_,h⟩
  ·cases h
 ·rintro⟨k,hk⟩;unfold rS;have h:∃k x,f k=some x:=⟨k,x,hk⟩;rw[dif_pos h];obtain⟨y,hy⟩:=Classical.choose_spec h;have h1:=hm _ (max (Classical.choose h) k) y (mv _ _) hy;have h2:=hm _ (max (Classical.choose h) k) x (mw _ _) hk;rw[h1]at h2;cases h2;exact hy
theorem pW{α:Type}{f:Nat→Option α}(hm:ym f){y:Option α}(h:∀x,(∃k,f k=some x)↔y=some x):rS f=y:=by
 apply Option.ext;intro x;rw[De hm];exact h x
noncomputable def aO (T:bH):bS:=fun f args S=>rS fun k=>bY T k f args S
noncomputable def aJ (T:bH)(K:List Kt)(fr:Fr)(S:St):Option (Fr×St):=rS fun k=>ay T k K fr S
noncomputable def eu (T:bH)(f:Nat)(args:List PV):Option PV:=yO (aO T f args bk)
theorem aCC(T:bH)(f:Nat)(args:List PV)(S:St):ym fun k=>bY T k f args S:=fun _ _ _ h e=>eq T h _ _ _ _ e
theorem nu(T:bH)(K:List Kt)(fr:Fr)(S:St):ym fun k=>ay T k K fr S:=fun _ _ _ h e=>Dd T h e
theorem mX{T:bH}{f:Nat}{args:List PV}{S:St}{x:PV×St}:aO T f args S=some x↔∃k,bY T k f args S=some x:=De (aCC T f args S)
theorem nv{T:bH}{K:List Kt}{fr:Fr}{S:St}{x:Fr×St}:aJ T K fr S=some x↔∃k,ay T k K fr S=some x:=De (nu T K fr S)
theorem aCD(T:bH)(k:Nat):jH (bY T k) (aO T):=fun _ _ _ _ e=>mX.2 ⟨k,e⟩
theorem Df{T:bH}(k:Nat){f:Nat}{args:List PV}{S:St}{x:PV×St}(h:bY T k f args S=some x):aO T f args S=some x:=mX.2 ⟨k,h⟩
theorem aCE{T:bH}{fr:Fr}{S:St}{op:cK}{x:PV×St}(h:aI T (aO T) fr S op=some x):∃k,aI T (bY T k) fr S op=some x:=by
 have key:∀{m:CM} {f:Nat} {args:List PV},cd (aO T) m f args S=some x→∃k,cd (bY T k) m f args S=some x:=by
  intro m f args h
  cases m with
  |std=>exact mX.1 h
  |keep=>
   simp only[cd]at h ⊢
   cases hc:aO T f args S with
   |none=>rw[hc]at h;cases h
   |some q=>
    rw[hc]at h;obtain⟨k,hk⟩:=mX.1 hc
    exact⟨k,by rw[hk];exact h⟩
  |pur=>
   simp only[cd,jb]at h ⊢;split at h
   ·rename_i hf
    cases hc:aO T f (PV.frzL args) bk with
    |none=>rw[hc]at h;cases h
    |some q=>
     rw[hc]at h;obtain⟨k,hk⟩:=mX.1 hc;exact⟨k,by rw[if_pos hf,hk];exact h⟩
   ·cases h
  |snap=>
   simp only[cd,nZ]at h ⊢
   cases hs:cr (bQ S.objs 0 eM) args with
   |none=>rw[hs]at h;cases h
   |some as=>
    rw[hs]at h;simp only at h ⊢
    cases hc:aO T f (PV.frzL as) bk with
    |none=>rw[hc]at h;cases h
    |some q=>
     rw[hc]at h;obtain⟨k,hk⟩:=mX.1 hc;exact⟨k,by rw[hk];exact h⟩
 cases op
 case call m f xs=>simp only[aI]at h ⊢;exact key h
 case callv m x xs=>
  simp only[aI]at h ⊢;cases hx:ev fr x<;>rw[hx]at h<;>first|exact key h|cases h
 case inv cm m x xs=>
  simp only[aI]at h ⊢;cases hx:ev fr x<;>rw[hx]at h<;>try (cases h;done)
  rename_i t v;simp only at h ⊢
  cases hm:T.meth t m with
  |none=>rw[hm]at h;cases h
  |some f=>rw[hm]at h;exact key h
 case callb b f xs=>
  simp only[aI]at h ⊢;cases hx:fr b<;>rw[hx]at h<;>try (cases h;done)
  simp only at h ⊢
  cases hc:aO T f (xs.map (ev fr)) S with
  |none=>rw[hc]at h;cases h
  |some q=>
   rw[hc]at h;obtain⟨k,hk⟩:=mX.1 hc;exact⟨k,by rw[hk];exact h⟩
 case load ag n mix x=>cases mix<;>exact⟨0,by simpa only[aI]using h⟩
 all_goals exact⟨0,by simpa only[aI]using h⟩
section
variable {T : bH} {K : List Kt} {fr : Fr} {S : St}
theorem iT{K1:List Kt}{fr1:Fr}{S1:St}(h:∀k,ay T (k+1) K fr S=ay T k K1 fr1 S1):aJ T K fr S=aJ T K1 fr1 S1:=by
 refine pW (nu T K fr S) fun x=>?_;rw[nv];constructor
 ·rintro⟨k,e⟩
  cases k with
  |zero=>simp[ay]at e
  |succ k=>exact⟨k,by rw[←h];exact e⟩
 ·rintro⟨k,e⟩;exact⟨k+1,by rw[h];exact e⟩
theorem Vs(h:∀k,ay T (k+1) K fr S=some (fr,S)):aJ T K fr S=some (fr,S):=nv.2 ⟨1,h 0⟩
theorem Dg:aJ T [] fr S=some (fr,S):=Vs fun _=>rfl
theorem aCF:aJ T (.code .skip::K) fr S=aJ T K fr S:=iT fun _=>rfl
theorem aCG:aJ T (.code .ret::K) fr S=some (fr,S):=Vs fun _=>rfl
theorem aCH{n:Nat}:aJ T (.code (.exit n)::K) fr S=match im n K with|some K'=>aJ T K' fr S|none=>none:=by
 cases h:im n K with
 |some K'=>exact iT fun _=>by simp[ay,h]
 |none=>
  refine pW (nu T _ fr S) fun x=>⟨?_,fun h=>by cases h⟩;rintro⟨k,e⟩
  cases k with
  |zero=>simp[ay]at e
  |succ k=>simp[ay,h]at e
theorem Vt{l:List aF}:aJ T (.code (.region l)::K) fr S=aJ T (.ops l::K) fr S:=iT fun _=>rfl
theorem Vu{a b:az}:aJ T (.code (.seq a b)::K) fr S=aJ T (.code a::.code b::K) fr S:=iT fun _=>rfl
theorem aCI{n:Nat}{b:az}:aJ T (.code (.block n b)::K) fr S=aJ T (.code b::.blk n::K) fr S:=iT fun _=>rfl
theorem aCJ{b:az}:aJ T (.code (.loop b)::K) fr S=aJ T (.lp b::K) fr S:=iT fun _=>rfl
theorem af{b:az}:aJ T (.lp b::K) fr S=aJ T (.code b::.lp b::K) fr S:=iT fun _=>rfl
theorem aCK{b:az}:aJ T (.code (.scope b)::K) fr S=aJ T (.code b::K) fr S:=iT fun _=>rfl
theorem aCL{l:List (Nat×Nat)}{b:az}:aJ T (.code (.clr l b)::K) fr S=aJ T (.code b::.clr l::K) fr S:=iT fun _=>rfl
theorem aCM{l:List (Nat×Nat)}:aJ T (.clr l::K) fr S=aJ T K (clrs l fr) S:=iT fun _=>rfl
theorem aCN{n:Nat}:aJ T (.blk n::K) fr S=aJ T K fr S:=iT fun _=>rfl
theorem Vv:aJ T (.ops []::K) fr S=aJ T K fr S:=iT fun _=>rfl
def br{α:Type}(v:PV)(a b:Option α):Option α:=match v with|.bool true=>a|.bool false=>b|_=>none
theorem aCO{α:Type}{a b:Option α}:br (.bool true) a b=a:=rfl
theorem aCP{α:Type}{a b:Option α}:br (.bool false) a b=b:=rfl
theorem aCQ{c:aM}{t e:az}:aJ T (.code (.cond c t e)::K) fr S=br (ev fr c) (aJ T (.code t::K) fr S) (aJ T (.code e::K) fr S):=by
 have bad:(∀k,ay T (k+1) (.code (.cond c t e)::K) fr S=none)→aJ T (.code (.cond c t e)::K) fr S=none:=by
  intro hn;refine pW (nu T _ fr S) fun x=>⟨?_,fun h=>by cases h⟩;rintro⟨k,e⟩
  cases k with
  |zero=>simp[ay]at e
  |succ k=>rw[hn]at e;cases e
 cases h:ev fr c
 case bool b=>cases b<;>exact iT fun _=>by simp[ay,h]
 all_goals exact bad fun k=>by simp[ay,h]
noncomputable def cO (T:bH)(fr:Fr)(S:St)(op:cK):Option (PV×St):=aI T (aO T) fr S op
theorem Vw{d:Option Nat}{op:cK}{l:List aF}:aJ T (.ops (⟨d,op,none⟩::l)::K) fr S=(cO T fr S op).bind fun x=>aJ T (.ops l::K) (aw fr d x.1) x.2:=by
 refine pW (nu T _ fr S) fun x=>?_;constructor
 ·rintro⟨k,e⟩
  cases k with
  |zero=>simp[ay]at e
  |succ k=>
   simp only[ay,eG]at e
   cases hp:aI T (bY T k) fr S op with
   |none=>rw[hp]at e;cases e
   |some q=>
    obtain⟨v,S'⟩:=q;rw[hp]at e;rw[cO,uZ (aCD T k) hp];exact nv.2 ⟨k,e⟩
 ·intro h;rw[cO]at h
  cases hp:aI T (aO T) fr S op with
  |none=>rw[hp]at h;cases h
  |some q=>
   obtain⟨v,S'⟩:=q;rw[hp]at h;obtain⟨k,hk⟩:=aCE hp;obtain⟨j,hj⟩:=nv.1 (show aJ T (.ops l::K) (aw fr d v) S'=some x from h);refine⟨max k j+1,?_⟩;simp only[ay,eG,uZ (eq T (mv k j)) hk];exact Dd T (mw k j) hj
def ft{α:Type}(v:PV)(b:Bool)(x y:Option α):Option α:=match v with|.bool c=>if c==b then x else y|.tup []=>y|_=>none
theorem jI{d:Option Nat}{op:cK}{l:List aF}{t:Nat}{b:Bool} :
  aJ T (.ops (⟨d,op,some (t,b)⟩::l)::K) fr S=ft (fr t) b (aJ T (.ops (⟨d,op,none⟩::l)::K) fr S) (aJ T (.ops l::K) (aw fr d (.tup [])) S):=by
 have bad:(∀k,ay T (k+1) (.ops (⟨d,op,some (t,b)⟩::l)::K) fr S=none)→aJ T (.ops (⟨d,op,some (t,b)⟩::l)::K) fr S=none:=by
  intro hn;refine pW (nu T _ fr S) fun x=>⟨?_,fun h=>by cases h⟩;rintro⟨k,e⟩
  cases k with
  |zero=>simp[ay]at e
  |succ k=>rw[hn]at e;cases e
 cases h:fr t
 case bool c=>
  simp only[ft];by_cases e:c=b
  ·subst e;simp only[beq_self_eq_true,if_true];refine pW (nu T _ fr S) fun x=>?_;rw[nv];constructor
   ·rintro⟨k,q⟩
    cases k with
    |zero=>simp[ay]at q
    |succ k=>exact⟨k+1,by simpa[ay,eG,h]using q⟩
   ·rintro⟨k,q⟩
    cases k with
    |zero=>simp[ay]at q
    |succ k=>exact⟨k+1,by simpa[ay,eG,h]using q⟩
  ·have e':(c==b)=false:=by simpa using e
   simp only[e',cF,if_false];exact iT fun k=>by simp only[ay,eG,h,e']
 case tup vs=>
  cases vs with
  |nil=>exact iT fun k=>by simp only[ay,eG,h]
  |cons=>exact bad fun k=>by simp[ay,eG,h]
 all_goals exact bad fun k=>by simp[ay,eG,h]
theorem Vx{f:Nat}{args:List PV}:cd (aO T) .pur f args S=if PV.freeL args then fm S (eu T f (PV.frzL args))else none:=by
 simp only[cd,jb,eu];split<;>rfl
end
theorem ub(T:bH):∀(l:List aF) (k:Nat) (K:List Kt) (fr:Fr) (S:St) (r:Fr×St),ay T k (.ops l::K) fr S=some r →
  ∃fr1 S1 i,bf T (bY T k) l fr S=some (fr1,S1)∧i<k∧ay T i K fr1 S1=some r
 | [],0,_,_,_,_,h=>by simp[ay]at h
 | [],k+1,K,fr,S,r,h=>⟨fr,S,k,rfl,by omega,by simpa only[ay]using h⟩
 |o::l,0,_,_,_,_,h=>by simp[ay]at h
 |o::l,k+1,K,fr,S,r,h=>by
  simp only[ay]at h;simp only[bf]
  cases hw:eG fr o.guard with
  |none=>rw[hw]at h;cases h
  |some b=>
   rw[hw]at h
   cases b with
   |false=>
    obtain⟨fr1,S1,i,h1,h2,h3⟩:=ub T l k K _ _ r h
    exact⟨fr1,S1,i,kJ (eq T (by omega)) h1,by omega,h3⟩
   |true=>
    simp only at h ⊢
    cases hp:aI T (bY T k) fr S o.op with
    |none=>rw[hp]at h;cases h
    |some q=>
     obtain⟨v,S'⟩:=q;rw[hp]at h;obtain⟨fr1,S1,i,h1,h2,h3⟩:=ub T l k K _ _ r h;refine⟨fr1,S1,i,?_,by omega,h3⟩;rw[uZ (eq T (by omega:k≤k+1)) hp];exact kJ (eq T (by omega)) h1
def uc(T:bH)(k:Nat)(K:List Kt)(r:Fr×St):Ex→Fr→St→Prop
 |.norm,fr1,S1=>∃i,i<k∧ay T i K fr1 S1=some r
 |.exit m,fr1,S1=>∃K' i,im m K=some K'∧i<k∧ay T i K' fr1 S1=some r
 |.ret,fr1,S1=>r=(fr1,S1)
theorem uc.mono{T:bH}{k j:Nat}{K:List Kt}{r:Fr×St}{e:Ex}{fr1:Fr}{S1:St}(h:uc T k K r e fr1 S1)(hk:k≤j):uc T j K r e fr1 S1:=by
 cases e with
 |norm=>obtain⟨i,h1,h2⟩:=h;exact⟨i,by omega,h2⟩
 |exit m=>obtain⟨K',i,h0,h1,h2⟩:=h;exact⟨K',i,h0,by omega,h2⟩
 |ret=>exact h
theorem Vy(T:bH):∀(k:Nat) (c:az) (K:List Kt) (fr:Fr) (S:St) (r:Fr×St),ay T k (.code c::K) fr S=some r →
  ∃e fr1 S1,bI T (bY T k) k c fr S=some (e,fr1,S1)∧uc T k K r e fr1 S1:=by
 intro k
 induction k using Nat.strongRecOn with
 |_ k ih=>
  intro c K fr S r h
  cases k with
  |zero=>simp[ay]at h
  |succ k=>
   have lift:∀{c:az} {fr:Fr} {S:St} {x:Ex×Fr×St},bI T (bY T k) k c fr S=some x→bI T (bY T (k+1)) k c fr S=some x:=fun h=>jf (eq T (by omega)) (aj _) h;have liftI:∀{i:Nat} {c:az} {fr:Fr} {S:St} {x:Ex×Fr×St},i≤k→bI T (bY T i) i c fr S=some x→bI T (bY T (k+1)) k c fr S=some x:=fun hi h=>jf (eq T (by omega)) hi h
   cases c with
   |skip=>simp only[ay]at h;exact⟨.norm,fr,S,rfl,k,by omega,h⟩
   |ret=>simp only[ay,bU]at h;exact⟨.ret,fr,S,rfl,h.symm⟩
   |bad=>simp[ay]at h
   |exit n=>
    simp only[ay]at h
    cases hx:im n K with
    |none=>rw[hx]at h;cases h
    |some K'=>rw[hx]at h;exact⟨.exit n,fr,S,rfl,K',k,hx,by omega,h⟩
   |region l=>
    simp only[ay]at h;obtain⟨fr1,S1,i,h1,h2,h3⟩:=ub T l k K fr S r h;refine⟨.norm,fr1,S1,?_,i,by omega,h3⟩;simp only[bI]
    rw[kJ (eq T (by omega:k≤k+1)) h1]
   |seq a b=>
    simp only[ay]at h;obtain⟨e,fr1,S1,h1,h2⟩:=ih k (by omega) a _ fr S r h
    cases e with
    |norm=>
     obtain⟨i,hi,h3⟩:=h2;obtain⟨e2,fr2,S2,h4,h5⟩:=ih i (by omega) b _ fr1 S1 r h3;refine⟨e2,fr2,S2,?_,h5.mono (by omega)⟩;simp only[bI];rw[lift h1]
     exact liftI (by omega) h4
    |exit m=>
     refine⟨.exit m,fr1,S1,?_,?_⟩
     ·simp only[bI];rw[lift h1]
     ·obtain⟨K',i,q1,q2,q3⟩:=h2
      exact⟨K',i,by simpa only[im]using q1,by omega,q3⟩
    |ret=>exact⟨.ret,fr1,S1,by simp only[bI];rw[lift h1],h2⟩
   |cond x a b=>
    simp only[ay]at h;cases hx:ev fr x<;>rw[hx]at h<;>try (cases h;done)
    rename_i q
    cases q with
    |true=>
     obtain⟨e,fr1,S1,h1,h2⟩:=ih k (by omega) a _ fr S r h
     exact⟨e,fr1,S1,by simp only[bI,hx];exact lift h1,h2.mono (by omega)⟩
    |false=>
     obtain⟨e,fr1,S1,h1,h2⟩:=ih k (by omega) b _ fr S r h
     exact⟨e,fr1,S1,by simp only[bI,hx];exact lift h1,h2.mono (by omega)⟩
   |block n b=>
    simp only[ay]at h;obtain⟨e,fr1,S1,h1,h2⟩:=ih k (by omega) b _ fr S r h
    cases e with
    |norm=>
     obtain⟨i,hi,h3⟩:=h2
     cases i with
     |zero=>simp[ay]at h3
     |succ i=>
      simp only[ay]at h3
      exact⟨.norm,fr1,S1,by simp only[bI];rw[lift h1],i,by omega,h3⟩
    |exit m=>
     obtain⟨K',i,q1,q2,q3⟩:=h2;simp only[im]at q1;by_cases hm:m=n
     ·rw[if_pos hm]at q1;cases q1;exact⟨.norm,fr1,S1,by simp only[bI];rw[lift h1];simp[hm],i,by omega,q3⟩
     ·rw[if_neg hm]at q1
      exact⟨.exit m,fr1,S1,by simp only[bI];rw[lift h1];simp[hm],K',i,q1,by omega,q3⟩
    |ret=>exact⟨.ret,fr1,S1,by simp only[bI];rw[lift h1],h2⟩
   |rng pre x en post l b=>
    simp only[ay]at h;obtain⟨fr1,S1,i,h1,h2,h3⟩:=ub T pre k _ fr S r h
    cases i with
    |zero=>simp[ay]at h3
    |succ i=>
     simp only[ay]at h3
     cases hr:iE T (bY T i) (fun fr S=>bI T (bY T i) i b fr S) x en post l fr1 S1 with
     |none=>rw[hr]at h3;cases h3
     |some q=>
      obtain⟨fr',S'⟩:=q;rw[hr]at h3;refine⟨.norm,fr',S',?_,i,by omega,h3⟩;simp only[bI];rw[kJ (eq T (by omega:k≤k+1)) h1];simp only
      rw[ua (eq T (by omega:i≤k+1)) (fun _ _ _ e=>jf (eq T (by omega:i≤k+1)) (by omega:i≤k) e) hr]
   |scope b=>
    simp only[ay]at h;obtain⟨e,fr1,S1,h1,h2⟩:=ih k (by omega) b _ fr S r h
    exact⟨e,fr1,S1,by simp only[bI];exact lift h1,h2.mono (by omega)⟩
   |clr l b=>
    simp only[ay]at h;obtain⟨e,fr1,S1,h1,h2⟩:=ih k (by omega) b _ fr S r h
    cases e with
    |norm=>
     obtain⟨i,hi,h3⟩:=h2
     cases i with
     |zero=>simp[ay]at h3
     |succ i=>
      simp only[ay]at h3
      exact⟨.norm,clrs l fr1,S1,by simp only[bI];rw[lift h1],i,by omega,h3⟩
    |exit m=>
     refine⟨.exit m,fr1,S1,?_,?_⟩
     ·simp only[bI];rw[lift h1]
     ·obtain⟨K',i,q1,q2,q3⟩:=h2
      exact⟨K',i,by simpa only[im]using q1,by omega,q3⟩
    |ret=>exact⟨.ret,fr1,S1,by simp only[bI];rw[lift h1],h2⟩
   |loop b=>
    simp only[ay]at h
    cases k with
    |zero=>simp[ay]at h
    |succ k=>
     simp only[ay]at h;obtain⟨e,fr1,S1,h1,h2⟩:=ih k (by omega) b _ fr S r h;have h1':=liftI (i:=k) (by omega) h1
     cases e with
     |norm=>
      obtain⟨i,hi,h3⟩:=h2;obtain⟨e2,fr2,S2,h4,h5⟩:=ih (i+1) (by omega) (.loop b) K fr1 S1 r (by simp only[ay];exact h3);refine⟨e2,fr2,S2,?_,h5.mono (by omega)⟩;simp only[bI]at h1' ⊢;rw[h1']
      exact liftI (by omega) h4
     |exit m=>
      refine⟨.exit m,fr1,S1,?_,?_⟩
      ·simp only[bI];rw[h1']
      ·obtain⟨K',i,q1,q2,q3⟩:=h2
       exact⟨K',i,by simpa only[im]using q1,by omega,q3⟩
     |ret=>exact⟨.ret,fr1,S1,by simp only[bI];rw[h1'],h2⟩
def ud{α:Type}(a:α):List α→List (List α)
 | []=>[[a]]
 |b::l=>(a::b::l)::(ud a l).map (b :: ·)
def yn{α:Type}:List α→List (List α)
 | []=>[[]]
 |a::l=>(yn l).flatMap (ud a)
theorem Vz{α:Type}(a:α)(t:List α):∀s:List α,(s++a::t)∈ud a (s++t)
 | []=>by cases t<;>simp[ud]
 |b::s=>by simp only[jx,ud,cX,cD];exact .inr ⟨_,Vz a t s,rfl⟩
theorem WA{α:Type}:∀{l p:List α},p.Perm l→p∈yn l
 | [],p,h=>by rw[h.eq_nil];simp[yn]
 |a::l,p,h=>by
  have ha:a∈p:=h.mem_iff.2 (by simp);obtain⟨s,t,rfl⟩:=List.append_of_mem ha;have h2:(s++t).Perm l:=(List.perm_cons a).1 ((List.perm_middle.symm).trans h);exact mE.2 ⟨s++t,WA h2,Vz a t s⟩
theorem WB{α:Type}{F:Nat→α→Prop}(hm:∀k j x,k≤j→F k x→F j x):∀(l:List α),(∀x∈l,∃k,F k x)→∃k,∀x∈l,F k x
 | [],_=>⟨0,by simp⟩
 |x::l,h=>by
  obtain⟨k,hk⟩:=h x (by simp);obtain⟨j,hj⟩:=WB hm l (fun y hy=>h y (by simp[hy]));refine⟨max k j,fun y hy=>?_⟩;rcases cX.1 hy with rfl|hy
  ·exact hm _ _ _ (mv _ _) hk
  ·exact hm _ _ _ (mw _ _) (hj y hy)
def yo(T:bH)(id:Nat)(cs:List PV)(en:Nat)(post:List aF)(l:List (Nat×Nat))(b:az):List (PV×PV)→Fr→St→Fr×St→Prop
 | [],fr,S,r=>r=(fr,S)
 |(k,v)::p,fr,S,r=>∃fr1 S1,(∀K,aJ T (.ops post::.code b::.clr l::K) (bw fr en (.tup [k,v])) S=aJ T K fr1 S1)∧S1.objs[id]?=some cs∧yo T id cs en post l b p fr1 S1 r
theorem aCR(v:PV):∃u:PV,u≠v:=by
 cases v with
 |nilp=>exact⟨.nils,by simp⟩
 |_=>exact⟨.nilp,by simp⟩
theorem aCS{T:bH}{id:Nat}{cs:List PV}{en:Nat}{post:List aF}{l:List (Nat×Nat)}{b:az}{k v:PV}{fr fr1:Fr}{S S1:St}(hbeq:PV.beqL cs cs=true)
  (h:∀K,aJ T (.ops post::.code b::.clr l::K) (bw fr en (.tup [k,v])) S=aJ T K fr1 S1)(hcs:S1.objs[id]?=some cs) :
  ∃j,iD T (bY T j) (fun fr S=>bI T (bY T j) j b fr S) id cs en post l k v fr S=some (fr1,S1):=by
 have dec:∀(K:List Kt) (r:Fr×St),aJ T K fr1 S1=some r→∃j e fr2 S2 fr3 S3 q,bf T (bY T j) post (bw fr en (.tup [k,v])) S=some (fr2,S2)∧bI T (bY T j) j b fr2 S2=some (e,fr3,S3)∧uc T q (.clr l::K) r e fr3 S3:=by
  intro K r hr;obtain⟨j,hj⟩:=nv.1 ((h K).trans hr);obtain⟨fr2,S2,i,h1,h2,h3⟩:=ub T post j _ _ S r hj;obtain⟨e,fr3,S3,h4,h5⟩:=Vy T i b _ fr2 S2 r h3;exact⟨j,e,fr2,S2,fr3,S3,i,h1,jf (eq T (by omega)) (by omega) h4,h5⟩
 obtain⟨j,e,fr2,S2,fr3,S3,q,h1,h2,h3⟩:=dec [] (fr1,S1) Dg;refine⟨j,?_⟩;unfold iD;simp only[aw];rw[h1];simp only[h2]
 cases e with
 |norm=>
  obtain⟨i,hi,h4⟩:=h3
  cases i with
  |zero=>simp[ay]at h4
  |succ i=>
   simp only[ay]at h4
   cases i with
   |zero=>simp[ay]at h4
   |succ i=>
    simp only[ay,bU,dT]at h4;obtain⟨rfl,rfl⟩:=h4
    simp only[hcs,hbeq,if_true]
 |exit m=>obtain⟨K',i,q1,_⟩:=h3;simp[im]at q1
 |ret=>
  exfalso;have e1:(fr1,S1)=(fr3,S3):=h3;obtain⟨u,hu⟩:=aCR (fr1 0)
  have hk:aJ T [.ops [⟨some 0,.mov (.cst u),none⟩]] fr1 S1=some (bw fr1 0 u,S1):=by
   rw[Vw];simp only[cO,aI,aQ,ev,fm,Ak,aw];rw[Vv,Dg]
  obtain⟨j',e',fr2',S2',fr3',S3',q',k1,k2,k3⟩:=dec _ _ hk;have a1:=kJ (eq T (mv j j')) h1;have a2:=kJ (eq T (mw j j')) k1;rw[a1]at a2;cases a2;have b1:=jf (eq T (mv j j')) (mv j j') h2;have b2:=jf (eq T (mw j j')) (mw j j') k2;rw[b1]at b2;cases b2;have e2:(bw fr1 0 u,S1)=(fr3,S3):=k3;rw[←e1]at e2;have e3:=congrFun (congrArg Prod.fst e2) 0;simp[bw]at e3;exact hu e3
theorem WC{T:bH}{id:Nat}{cs:List PV}{en:Nat}{post:List aF}{l:List (Nat×Nat)}{b:az}(hbeq:PV.beqL cs cs=true):∀{p:List (PV×PV)} {fr:Fr} {S:St} {r:Fr×St},yo T id cs en post l b p fr S r →
  ∃j,iS (iD T (bY T j) (fun fr S=>bI T (bY T j) j b fr S) id cs en post l) p fr S=some r
 | [],fr,S,r,h=>⟨0,by rw[show r=(fr,S)from h];rfl⟩
 |(k,v)::p,fr,S,r,h=>by
  obtain⟨fr1,S1,h1,h2,h3⟩:=h;obtain⟨i,hi⟩:=aCS hbeq h1 h2;obtain⟨j,hj⟩:=WC hbeq h3
  have up:∀{a c:Nat},a≤c→∀k v fr S r,iD T (bY T a) (fun fr S=>bI T (bY T a) a b fr S) id cs en post l k v fr S=some r→iD T (bY T c) (fun fr S=>bI T (bY T c) c b fr S) id cs en post l k v fr S=some r:=
   fun h k v fr S r e=>Dc (eq T h) (fun _ _ _ e=>jf (eq T h) h e) e
  refine⟨max i j,?_⟩;simp only[iS];rw[up (mv i j) _ _ _ _ _ hi];exact yk (up (mw i j)) hj
section
variable {T : bH} {K : List Kt} {fr : Fr} {S : St}
theorem Dh{pre:List aF}{x:aM}{en:Nat}{post:List aF}{l:List (Nat×Nat)}{b:az}:aJ T (.code (.rng pre x en post l b)::K) fr S=aJ T (.ops pre::.rg x en post l b::K) fr S:=iT fun _=>rfl
theorem aCT{x:aM}{en:Nat}{post:List aF}{l:List (Nat×Nat)}{b:az}{id:Nat}{cs:List PV}{r:Fr×St}(hbeq:PV.beqL cs cs=true)(hx:ev fr x=.map id)(hcs:S.objs[id]?=some cs)
  (h:∀p:List (PV×PV),p.Perm (ij cs)→yo T id cs en post l b p (clrs l fr) S r):aJ T (.rg x en post l b::K) fr S=aJ T K r.1 r.2:=by
 have up:∀{a c:Nat},a≤c→∀k v fr S r,iD T (bY T a) (fun fr S=>bI T (bY T a) a b fr S) id cs en post l k v fr S=some r→iD T (bY T c) (fun fr S=>bI T (bY T c) c b fr S) id cs en post l k v fr S=some r:=
  fun h k v fr S r e=>Dc (eq T h) (fun _ _ _ e=>jf (eq T h) h e) e
 obtain⟨j,hj⟩:=WB (F:=fun j (p:List (PV×PV))=>p.Perm (ij cs)→iS (iD T (bY T j) (fun fr S=>bI T (bY T j) j b fr S) id cs en post l) p (clrs l fr) S=some r)
  (fun a c p hac hp hq=>yk (up hac) (hp hq)) (yn (ij cs)) (fun p _=>by
   by_cases hp:p.Perm (ij cs)
   ·obtain⟨j,hj⟩:=WC hbeq (h p hp);exact⟨j,fun _=>hj⟩
   ·exact⟨0,fun hq=>absurd hq hp⟩)
 have hr:iE T (bY T j) (fun fr S=>bI T (bY T j) j b fr S) x en post l fr S=some r:=by
  unfold iE;rw[hx];simp only[hcs];exact yl.2 fun p hp=>hj p (WA hp) hp
 have upr:∀{a c:Nat} {r:Fr×St},a≤c→iE T (bY T a) (fun fr S=>bI T (bY T a) a b fr S) x en post l fr S=some r→iE T (bY T c) (fun fr S=>bI T (bY T c) c b fr S) x en post l fr S=some r:=
  fun h e=>ua (eq T h) (fun _ _ _ e=>jf (eq T h) h e) e
 refine pW (nu T _ fr S) fun y=>?_;rw[nv];constructor
 ·rintro⟨k,e⟩
  cases k with
  |zero=>simp[ay]at e
  |succ k=>
   simp only[ay]at e
   cases hk:iE T (bY T k) (fun fr S=>bI T (bY T k) k b fr S) x en post l fr S with
   |none=>rw[hk]at e;cases e
   |some q=>
    have e1:=upr (mv k j) hk;have e2:=upr (mw k j) hr;rw[e1]at e2;cases e2;rw[hk]at e;exact⟨k,e⟩
 ·rintro⟨k,e⟩;refine⟨max k j+1,?_⟩;simp only[ay];rw[upr (mw k j) hr];exact Dd T (mv k j) e
end
theorem aCU{T:bH}{f:Nat}(c:ai){args:List PV}{S:St}{x:PV×St}(hf:T.fn f=some (.code c))(ha:args.length=c.params)
  (h:((aJ T [.code c.body] (gV args) S).bind fun y=>(eN y.1 y.2 c.results).map fun vs=>ac c.raw S y.2 (iF vs))=some x):aO T f args S=some x:=by
 cases hg:aJ T [.code c.body] (gV args) S with
 |none=>rw[hg]at h;cases h
 |some y=>
  obtain⟨fr',S1⟩:=y;rw[hg]at h;simp only[Ak]at h
  cases hr:eN fr' S1 c.results with
  |none=>rw[hr]at h;cases h
  |some vs=>
   rw[hr]at h;simp only[lD,bU]at h;obtain⟨k,hk⟩:=nv.1 hg;obtain⟨e,fr1,S2,h1,h2⟩:=Vy T k c.body [] (gV args) S _ hk;refine Df (k+1) ?_;simp only[bY,hf,ha,if_true,h1]
   cases e with
   |norm=>
    obtain⟨i,hi,h3⟩:=h2
    cases i with
    |zero=>simp[ay]at h3
    |succ i=>
     simp only[ay,bU,dT]at h3;obtain⟨rfl,rfl⟩:=h3
     simp only[hr,h]
   |exit m=>obtain⟨K',i,q1,_⟩:=h2;simp[im]at q1
   |ret=>
    have:(fr',S1)=(fr1,S2):=h2;cases this;simp only[hr,h]
end Ps
