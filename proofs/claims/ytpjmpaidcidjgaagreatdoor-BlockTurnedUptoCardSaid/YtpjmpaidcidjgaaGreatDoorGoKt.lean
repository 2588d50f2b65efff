/- A flat machine over the pure semantics, with one equation a form of code: for walking through a function by rewriting. -/
import Derived.Test.YtpjmpaidcidjgaaGreatDoorAbbKt
import Derived.Test.YtpjmpaidcidjgaaGreatDoorDefsKt
namespace Ps
open Go
def fA(c d:aX):Prop:=∀f args S r,c f args S=some r→d f args S=some r
theorem VK{c d:aX}(h:fA c d){keep:Bool}{S:St}{f:Nat}{args:List PV}{r:PV×St}(e:lr keep S (c f args S)=some r):lr keep S (d f args S)=some r:=by
 cases hc:c f args S with
 |none=>rw[hc]at e;cases e
 |some q=>rw[hc]at e;rw[h _ _ _ _ hc];exact e
theorem VL{c d:aX}(h:fA c d){f:Nat}{args:List PV}{r:PV}(e:gT c f args=some r):gT d f args=some r:=by
 unfold gT at e ⊢;split at e
 ·rename_i hf;rw[if_pos hf]
  cases hc:c f (PV.frzL args) bF with
  |none=>rw[hc]at e;cases e
  |some q=>rw[hc]at e;rw[h _ _ _ _ hc];exact e
 ·cases e
theorem VM{c d:aX}(h:fA c d){f:Nat}{args:List PV}{S:St}{r:PV}(e:jn c f args S=some r):jn d f args S=some r:=by
 unfold jn at e ⊢
 cases hs:cD (aj S.objs 0 dJ) args with
 |none=>rw[hs]at e;cases e
 |some as=>
  rw[hs]at e;simp only at e ⊢
  cases hc:c f (PV.frzL as) bF with
  |none=>rw[hc]at e;cases e
  |some q=>rw[hc]at e;rw[h _ _ _ _ hc];exact e
theorem wz{c d:aX}(h:fA c d){m:CM}{f:Nat}{args:List PV}{S:St}{r:PV×St}(e:cE c m f args S=some r):cE d m f args S=some r:=by
 cases m with
 |std=>exact h _ _ _ _ e
 |keep=>exact VK h e
 |pur=>
  simp only[cE]at e ⊢
  cases hc:gT c f args with
  |none=>rw[hc]at e;cases e
  |some q=>rw[hc]at e;rw[VL h hc];exact e
 |snap=>
  simp only[cE]at e ⊢
  cases hc:jn c f args S with
  |none=>rw[hc]at e;cases e
  |some q=>rw[hc]at e;rw[VM h hc];exact e
theorem lz{T:aM}{c d:aX}(h:fA c d){fr:Fr}{S:St}{op:bC}{r:PV×St}(e:aH T c fr S op=some r):aH T d fr S op=some r:=by
 cases op
 case call m f xs=>simp only[aH]at e ⊢;exact wz h e
 case callv m x xs=>
  simp only[aH]at e ⊢;cases hx:ev fr x<;>rw[hx]at e<;>first|exact wz h e|cases e
 case inv cm m x xs=>
  simp only[aH]at e ⊢;cases hx:ev fr x<;>rw[hx]at e<;>try (cases e;done)
  rename_i t v;simp only at e ⊢
  cases hm:T.meth t m with
  |none=>rw[hm]at e;cases e
  |some f=>rw[hm]at e;exact wz h e
 case callb b f xs=>
  simp only[aH]at e ⊢;cases hx:fr b<;>rw[hx]at e<;>try (cases e;done)
  simp only at e ⊢
  cases hc:c f (xs.map (ev fr)) S with
  |none=>rw[hc]at e;cases e
  |some q=>rw[hc]at e;rw[h _ _ _ _ hc];exact e
 case load ag n mix x=>cases mix<;>simpa only[aH]using e
 all_goals simpa only[aH]using e
theorem hJ{T:aM}{c d:aX}(h:fA c d):∀{l:List aA} {fr:Fr} {S:St} {r:Fr×St},aY T c l fr S=some r→aY T d l fr S=some r
 | [],_,_,_,e=>e
 |o::l,fr,S,r,e=>by
  simp only[aY]at e ⊢
  cases hw:bW fr o.guard with
  |none=>rw[hw]at e;cases e
  |some b=>
   rw[hw]at e
   cases b with
   |false=>exact hJ h e
   |true=>
    simp only at e ⊢
    cases hp:aH T c fr S o.op with
    |none=>rw[hp]at e;cases e
    |some q=>
     obtain⟨v,S'⟩:=q;rw[hp]at e;rw[lz h hp];exact hJ h e
theorem Ms{it it':PV→PV→Fr→St→Option (Fr×St)}(h:∀k v fr S r,it k v fr S=some r→it' k v fr S=some r):∀{l:List (PV×PV)} {fr:Fr} {S:St} {r:Fr×St},kc it l fr S=some r→kc it' l fr S=some r
 | [],_,_,_,e=>e
 |(k,v)::l,fr,S,r,e=>by
  simp only[kc]at e ⊢
  cases hp:it k v fr S with
  |none=>rw[hp]at e;cases e
  |some q=>rw[hp]at e;rw[h _ _ _ _ _ hp];exact Ms h e
theorem VN{α:Type}{p l:List α}(h:p.Perm l)(hl:l.length≤1):p=l:=by
 match l,hl with
 | [],_=>exact h.eq_nil
 | [x],_=>exact List.perm_singleton.1 h
theorem Mt{it:PV→PV→Fr→St→Option (Fr×St)}{l:List (PV×PV)}{fr:Fr}{S:St}{r:Fr×St}:pN it l fr S=some r↔∀p:List (PV×PV),p.Perm l→kc it p fr S=some r:=by
  unfold pN;constructor
  · intro e p hp
    cases hr:kc it l fr S with
    |none=>rw[hr]at e;cases e
    |some q=>
      rw[hr]at e;simp only at e;split at e
      · rename_i h1;cases e;rw[VN hp h1];exact hr
      · split at e
        · rename_i h2;cases e;exact h2 p hp
        · cases e
  · intro h
    rw[h l (tV _)];simp only;split
    · rfl
    · first
      |rfl
      | (split
         · rfl
         · rename_i h2;exact absurd h h2)
theorem VO{it it':PV→PV→Fr→St→Option (Fr×St)}(h:∀k v fr S r,it k v fr S=some r→it' k v fr S=some r){l:List (PV×PV)}{fr:Fr}{S:St}{r:Fr×St}(e:pN it l fr S=some r):pN it' l fr S=some r:=
 Mt.2 fun p hp=>Ms h (Mt.1 e p hp)
theorem VP{T:aM}{c d:aX}(h:fA c d){run run':Fr→St→Option (Ex×Fr×St)}(hr:∀fr S r,run fr S=some r→run' fr S=some r){id:Nat}{cs:List PV}{en:Nat}{post:List aA}{l:List (Nat×Nat)}{k v:PV}{fr:Fr}{S:St}{r:Fr×St}
  (e:re T c run id cs en post l k v fr S=some r):re T d run' id cs en post l k v fr S=some r:=by
 unfold re at e ⊢
 cases hp:aY T c post (aO fr (some en) (.tup [k,v])) S with
 |none=>rw[hp]at e;cases e
 |some q=>
  obtain⟨fr2,S2⟩:=q;rw[hp]at e;rw[hJ h hp];simp only at e ⊢
  cases hb:run fr2 S2 with
  |none=>rw[hb]at e;cases e
  |some q=>rw[hb]at e;rw[hr _ _ _ hb];exact e
theorem rn{T:aM}{c d:aX}(h:fA c d){run run':Fr→St→Option (Ex×Fr×St)}(hr:∀fr S r,run fr S=some r→run' fr S=some r){x:aG}{en:Nat}{post:List aA}{l:List (Nat×Nat)}{fr:Fr}{S:St}{r:Fr×St}
  (e:iP T c run x en post l fr S=some r):iP T d run' x en post l fr S=some r:=by
 unfold iP at e ⊢;cases hx:ev fr x<;>rw[hx]at e<;>try (cases e;done)
 rename_i id;simp only at e ⊢
 cases hc:S.objs[id]? with
 |none=>rw[hc]at e;cases e
 |some cs=>
  rw[hc]at e;exact VO (fun k v fr S r=>VP h hr) e
theorem iQ{T:aM}{c d:aX}(h:fA c d):∀{k j:Nat} {code:aN} {fr:Fr} {S:St} {r:Ex×Fr×St},k≤j→aU T c k code fr S=some r→aU T d j code fr S=some r:=by
 intro k
 induction k with
 |zero=>intro j code fr S r _ e;simp[aU]at e
 |succ k ih=>
  intro j code fr S r hkj e;obtain⟨j,rfl⟩:∃i,j=i+1:=⟨j-1,by omega⟩;have hkj':k≤j:=by omega
  cases code with
  |skip=>exact e
  |ret=>exact e
  |exit n=>exact e
  |bad=>simp[aU]at e
  |region ops=>
   simp only[aU]at e ⊢
   cases hp:aY T c ops fr S with
   |none=>rw[hp]at e;cases e
   |some q=>rw[hp]at e;rw[hJ h hp];exact e
  |seq a b=>
   simp only[aU]at e ⊢
   cases hp:aU T c k a fr S with
   |none=>rw[hp]at e;cases e
   |some q=>
    obtain⟨ex,fr1,S1⟩:=q;rw[hp]at e;rw[ih hkj' hp]
    cases ex with
    |norm=>exact ih hkj' e
    |exit n=>exact e
    |ret=>exact e
  |cond x a b=>
   simp only[aU]at e ⊢;cases hx:ev fr x<;>rw[hx]at e<;>try (cases e;done)
   rename_i q
   cases q<;>exact ih hkj' e
  |block n b=>
   simp only[aU]at e ⊢
   cases hp:aU T c k b fr S with
   |none=>rw[hp]at e;cases e
   |some q=>
    rw[hp]at e;rw[ih hkj' hp];exact e
  |scope b=>
   simp only[aU]at e ⊢
   exact ih hkj' e
  |clr l b=>
   simp only[aU]at e ⊢
   cases hp:aU T c k b fr S with
   |none=>rw[hp]at e;cases e
   |some q=>rw[hp]at e;rw[ih hkj' hp];exact e
  |rng pre x en post l b=>
   simp only[aU]at e ⊢
   cases hp:aY T c pre fr S with
   |none=>rw[hp]at e;cases e
   |some q=>
    obtain⟨fr1,S1⟩:=q;rw[hp]at e;rw[hJ h hp];simp only at e ⊢
    cases hr:iP T c (fun fr S=>aU T c k b fr S) x en post l fr1 S1 with
    |none=>rw[hr]at e;cases e
    |some q=>
     rw[hr]at e;rw[rn h (fun _ _ _ e=>ih hkj' e) hr]
     exact e
  |loop b=>
   simp only[aU]at e ⊢
   cases hp:aU T c k b fr S with
   |none=>rw[hp]at e;cases e
   |some q=>
    obtain⟨ex,fr1,S1⟩:=q;rw[hp]at e;rw[ih hkj' hp]
    cases ex with
    |norm=>exact ih hkj' e
    |exit n=>exact e
    |ret=>exact e
theorem Mu{T:aM}{c d:aX}(h:fA c d){k j:Nat}(hkj:k≤j):∀{l:List aN} {fr:Fr} {S:St} {r:Fr×St},jG T c k l fr S=some r→jG T d j l fr S=some r
 | [],_,_,_,e=>e
 |p::l,fr,S,r,e=>by
  simp only[jG]at e ⊢
  cases hp:aU T c k p fr S with
  |none=>rw[hp]at e;cases e
  |some q=>
   rw[hp]at e;rw[iQ h hkj hp];obtain⟨x,fr1,S1⟩:=q
   cases x with
   |norm=>exact Mu h hkj e
   |exit m=>cases e
   |ret=>cases e
theorem VQ{c d:aX}(h:fA c d){cf:Nat}{caps:List PV}{fr:Fr}{S:St}{r:Fr×St}(e:pO c cf caps fr S=some r):pO d cf caps fr S=some r:=by
 unfold pO at e ⊢
 cases hc:c cf caps S with
 |none=>rw[hc]at e;cases e
 |some q=>rw[hc]at e;rw[h _ _ _ _ hc];exact e
theorem VS{T:aM}{c d:aX}(h:fA c d){k j:Nat}(hkj:k≤j){b:aT}{caps:List PV}{fr:Fr}{S:St}{r:Fr×St}(e:ke T c k b caps fr S=some r):ke T d j b caps fr S=some r:=by
 unfold ke at e ⊢;split at e
 ·rename_i ha;rw[if_pos ha]
  cases hp:aU T c k b.body (bX caps) S with
  |none=>rw[hp]at e;cases e
  |some q=>rw[hp]at e;rw[iQ h hkj hp];exact e
 ·cases e
theorem Mv{T:aM}{c d:aX}(h:fA c d){k j:Nat}(hkj:k≤j){f:dg}{cf:Nat}{caps:List PV}{fr:Fr}{S:St}{r:Fr×St}(e:jH T c k f cf caps fr S=some r):jH T d j f cf caps fr S=some r:=by
 unfold jH at e ⊢;split at e
 ·split at e
  ·rename_i hcf;rw[if_pos hcf];exact VQ h e
  ·cases e
 ·split at e
  ·rename_i hcf;rw[if_pos hcf];exact VS h hkj e
  ·cases e
theorem Mw{T:aM}{c d:aX}(h:fA c d){k j:Nat}(hkj:k≤j){f:dg}{fr:Fr}{S:St}{r:Fr×St}(e:jI T c k f fr S=some r):jI T d j f fr S=some r:=by
 unfold jI at e ⊢
 cases hp:jG T c k f.pre fr S with
 |none=>rw[hp]at e;cases e
 |some q=>
  obtain⟨fr1,S1⟩:=q;rw[hp]at e;rw[Mu h hkj hp];simp only at e ⊢
  cases ho:aY T c [f.clo] fr1 S1 with
  |none=>rw[ho]at e;cases e
  |some q=>
   obtain⟨fr2,S2⟩:=q;rw[ho]at e;rw[hJ h ho];simp only at e ⊢;cases ht:fr2 f.t<;>rw[ht]at e<;>try (cases e;done)
   rename_i cf caps;simp only at e ⊢
   cases hr:aU T c k f.rest fr2 S2 with
   |none=>rw[hr]at e;cases e
   |some q=>
    obtain⟨x,fr3,S3⟩:=q;rw[hr]at e;rw[iQ h hkj hr]
    cases x with
    |norm=>exact Mv h hkj e
    |exit m=>cases e
    |ret=>exact Mv h hkj e
theorem fR(T:aM):∀{k j:Nat},k≤j→fA (ax T k) (ax T j):=by
 intro k
 induction k with
 |zero=>intro j _ f args S r e;simp[ax]at e
 |succ k ih=>
  intro j hkj f args S r e;obtain⟨j,rfl⟩:∃i,j=i+1:=⟨j-1,by omega⟩;simp only[ax]at e ⊢
  cases hf:T.fn f with
  |none=>rw[hf]at e;cases e
  |some pf=>
   rw[hf]at e
   cases pf with
   |indexByte=>exact e
   |ext _=>exact e
   |exs _=>exact e
   |codeD c=>
    simp only at e ⊢;split at e
    ·rename_i ha;rw[if_pos ha]
     cases hp:jI T (ax T k) k c (bX args) S with
     |none=>rw[hp]at e;cases e
     |some q=>
      rw[hp]at e;rw[Mw (ih (by omega:k≤j)) (by omega) hp];exact e
    ·cases e
   |code c=>
    simp only at e ⊢;split at e
    ·rename_i ha;rw[if_pos ha]
     cases hp:aU T (ax T k) k c.body (bX args) S with
     |none=>rw[hp]at e;cases e
     |some q=>
      rw[hp]at e;rw[iQ (ih (by omega:k≤j)) (by omega) hp];exact e
    ·cases e
inductive Kt where
 |code (c:aN)
 |ops (l:List aA)
 |blk (n:Nat)
 |lp (b:aN)
 |clr (l:List (Nat×Nat))
 |rg (x:aG) (en:Nat) (post:List aA) (l:List (Nat×Nat)) (b:aN)
def fB(n:Nat):List Kt→Option (List Kt)
 | []=>none
 |.blk m::K=>if n=m then some K else fB n K
 |_::K=>fB n K
noncomputable def aW (T:aM):Nat→List Kt→Fr→St→Option (Fr×St)
 |0,_,_,_=>none
 |_+1,[],fr,S=>some (fr,S)
 |k+1,.code .skip::K,fr,S=>aW T k K fr S
 |_+1,.code .ret::_,fr,S=>some (fr,S)
 |k+1,.code (.exit n)::K,fr,S=>match fB n K with|some K'=>aW T k K' fr S|none=>none
 |k+1,.code (.region l)::K,fr,S=>aW T k (.ops l::K) fr S
 |k+1,.code (.seq a b)::K,fr,S=>aW T k (.code a::.code b::K) fr S
 |k+1,.code (.cond c t e)::K,fr,S=>match ev fr c with
  |.bool true=>aW T k (.code t::K) fr S
  |.bool false=>aW T k (.code e::K) fr S
  |_=>none
 |k+1,.code (.block n b)::K,fr,S=>aW T k (.code b::.blk n::K) fr S
 |k+1,.code (.loop b)::K,fr,S=>aW T k (.lp b::K) fr S
 |_+1,.code .bad::_,_,_=>none
 |k+1,.lp b::K,fr,S=>aW T k (.code b::.lp b::K) fr S
 |k+1,.code (.clr l b)::K,fr,S=>aW T k (.code b::.clr l::K) fr S
 |k+1,.code (.scope b)::K,fr,S=>aW T k (.code b::K) fr S
 |k+1,.clr l::K,fr,S=>aW T k K (clrs l fr) S
 |k+1,.code (.rng pre x en post l b)::K,fr,S=>aW T k (.ops pre::.rg x en post l b::K) fr S
 |k+1,.rg x en post l b::K,fr,S=>match iP T (ax T k) (fun fr S=>aU T (ax T k) k b fr S) x en post l fr S with
  |some (fr',S')=>aW T k K fr' S'
  |none=>none
 |k+1,.blk _::K,fr,S=>aW T k K fr S
 |k+1,.ops []::K,fr,S=>aW T k K fr S
 |k+1,.ops (o::l)::K,fr,S=>match bW fr o.guard with
  |none=>none
  |some false=>aW T k (.ops l::K) (aO fr o.dst (.tup [])) S
  |some true=>match aH T (ax T k) fr S o.op with
   |some (v,S')=>aW T k (.ops l::K) (aO fr o.dst v) S'
   |none=>none
theorem Mx(T:aM):∀{k j:Nat} {K:List Kt} {fr:Fr} {S:St} {r:Fr×St},k≤j→aW T k K fr S=some r→aW T j K fr S=some r:=by
 intro k
 induction k with
 |zero=>intro j K fr S r _ e;simp[aW]at e
 |succ k ih=>
  intro j K fr S r hkj e;obtain⟨j,rfl⟩:∃i,j=i+1:=⟨j-1,by omega⟩;have hk:k≤j:=by omega
  match K with
  | []=>exact e
  |.code .skip::K=>simp only[aW]at e ⊢;exact ih hk e
  |.code .ret::_=>exact e
  |.code (.exit n)::K=>
   simp only[aW]at e ⊢
   cases hx:fB n K with
   |none=>rw[hx]at e;cases e
   |some K'=>rw[hx]at e;exact ih hk e
  |.code (.region l)::K=>simp only[aW]at e ⊢;exact ih hk e
  |.code (.seq a b)::K=>simp only[aW]at e ⊢;exact ih hk e
  |.code (.cond c t el)::K=>
   simp only[aW]at e ⊢;cases hx:ev fr c<;>rw[hx]at e<;>try (cases e;done)
   rename_i q
   cases q<;>exact ih hk e
  |.code (.block n b)::K=>simp only[aW]at e ⊢;exact ih hk e
  |.code (.loop b)::K=>simp only[aW]at e ⊢;exact ih hk e
  |.code .bad::K=>simp[aW]at e
  |.lp b::K=>simp only[aW]at e ⊢;exact ih hk e
  |.blk n::K=>simp only[aW]at e ⊢;exact ih hk e
  |.code (.clr l b)::K=>simp only[aW]at e ⊢;exact ih hk e
  |.code (.scope b)::K=>simp only[aW]at e ⊢;exact ih hk e
  |.clr l::K=>simp only[aW]at e ⊢;exact ih hk e
  |.code (.rng pre x en post l b)::K=>simp only[aW]at e ⊢;exact ih hk e
  |.rg x en post l b::K=>
   simp only[aW]at e ⊢
   cases hr:iP T (ax T k) (fun fr S=>aU T (ax T k) k b fr S) x en post l fr S with
   |none=>rw[hr]at e;cases e
   |some q=>
    obtain⟨fr',S'⟩:=q;rw[hr]at e;rw[rn (fR T hk) (fun _ _ _ e=>iQ (fR T hk) hk e) hr]
    exact ih hk e
  |.ops []::K=>simp only[aW]at e ⊢;exact ih hk e
  |.ops (o::l)::K=>
   simp only[aW]at e ⊢
   cases hw:bW fr o.guard with
   |none=>rw[hw]at e;cases e
   |some b=>
    rw[hw]at e
    cases b with
    |false=>exact ih hk e
    |true=>
     simp only at e ⊢
     cases hp:aH T (ax T k) fr S o.op with
     |none=>rw[hp]at e;cases e
     |some q=>
      obtain⟨v,S'⟩:=q;rw[hp]at e;rw[lz (fR T hk) hp];exact ih hk e
open Classical in
noncomputable def nU {α:Type}(f:Nat→Option α):Option α:=if h:∃k x,f k=some x then f (Classical.choose h)else none
def rp{α:Type}(f:Nat→Option α):Prop:=∀k j x,k≤j→f k=some x→f j=some x
theorem xA{α:Type}{f:Nat→Option α}(hm:rp f){x:α}:nU f=some x↔∃k,f k=some x:=by
 constructor
 ·intro h;unfold nU at h;split at h
  ·exact⟨_,h⟩
  ·cases h
 ·rintro⟨k,hk⟩;unfold nU;have h:∃k x,f k=some x:=⟨k,x,hk⟩;rw[dif_pos h];obtain⟨y,hy⟩:=Classical.choose_spec h;have h1:=hm _ (max (Classical.choose h) k) y (tq _ _) hy;have h2:=hm _ (max (Classical.choose h) k) x (tr _ _) hk;rw[h1]at h2;cases h2;exact hy
theorem nV{α:Type}{f:Nat→Option α}(hm:rp f){y:Option α}(h:∀x,(∃k,f k=some x)↔y=some x):nU f=y:=by
 apply Option.ext;intro x;rw[xA hm];exact h x
noncomputable def aS (T:aM):aX:=fun f args S=>nU fun k=>ax T k f args S
noncomputable def aF (T:aM)(K:List Kt)(fr:Fr)(S:St):Option (Fr×St):=nU fun k=>aW T k K fr S
noncomputable def ef (T:aM)(f:Nat)(args:List PV):Option PV:=rZ (aS T f args bF)
theorem VT(T:aM)(f:Nat)(args:List PV)(S:St):rp fun k=>ax T k f args S:=fun _ _ _ h e=>fR T h _ _ _ _ e
theorem mB(T:aM)(K:List Kt)(fr:Fr)(S:St):rp fun k=>aW T k K fr S:=fun _ _ _ h e=>Mx T h e
theorem jq{T:aM}{f:Nat}{args:List PV}{S:St}{x:PV×St}:aS T f args S=some x↔∃k,ax T k f args S=some x:=xA (VT T f args S)
theorem iR{T:aM}{K:List Kt}{fr:Fr}{S:St}{x:Fr×St}:aF T K fr S=some x↔∃k,aW T k K fr S=some x:=xA (mB T K fr S)
theorem pR(T:aM)(k:Nat):fA (ax T k) (aS T):=fun _ _ _ _ e=>jq.2 ⟨k,e⟩
theorem xB{T:aM}(k:Nat){f:Nat}{args:List PV}{S:St}{x:PV×St}(h:ax T k f args S=some x):aS T f args S=some x:=jq.2 ⟨k,h⟩
theorem VU{T:aM}{fr:Fr}{S:St}{op:bC}{x:PV×St}(h:aH T (aS T) fr S op=some x):∃k,aH T (ax T k) fr S op=some x:=by
 have key:∀{m:CM} {f:Nat} {args:List PV},cE (aS T) m f args S=some x→∃k,cE (ax T k) m f args S=some x:=by
  intro m f args h
  cases m with
  |std=>exact jq.1 h
  |keep=>
   simp only[cE]at h ⊢
   cases hc:aS T f args S with
   |none=>rw[hc]at h;cases h
   |some q=>
    rw[hc]at h;obtain⟨k,hk⟩:=jq.1 hc
    exact⟨k,by rw[hk];exact h⟩
  |pur=>
   simp only[cE,gT]at h ⊢;split at h
   ·rename_i hf
    cases hc:aS T f (PV.frzL args) bF with
    |none=>rw[hc]at h;cases h
    |some q=>
     rw[hc]at h;obtain⟨k,hk⟩:=jq.1 hc;exact⟨k,by rw[if_pos hf,hk];exact h⟩
   ·cases h
  |snap=>
   simp only[cE,jn]at h ⊢
   cases hs:cD (aj S.objs 0 dJ) args with
   |none=>rw[hs]at h;cases h
   |some as=>
    rw[hs]at h;simp only at h ⊢
    cases hc:aS T f (PV.frzL as) bF with
    |none=>rw[hc]at h;cases h
    |some q=>
     rw[hc]at h;obtain⟨k,hk⟩:=jq.1 hc;exact⟨k,by rw[hk];exact h⟩
 cases op
 case call m f xs=>simp only[aH]at h ⊢;exact key h
 case callv m x xs=>
  simp only[aH]at h ⊢;cases hx:ev fr x<;>rw[hx]at h<;>first|exact key h|cases h
 case inv cm m x xs=>
  simp only[aH]at h ⊢;cases hx:ev fr x<;>rw[hx]at h<;>try (cases h;done)
  rename_i t v;simp only at h ⊢
  cases hm:T.meth t m with
  |none=>rw[hm]at h;cases h
  |some f=>rw[hm]at h;exact key h
 case callb b f xs=>
  simp only[aH]at h ⊢;cases hx:fr b<;>rw[hx]at h<;>try (cases h;done)
  simp only at h ⊢
  cases hc:aS T f (xs.map (ev fr)) S with
  |none=>rw[hc]at h;cases h
  |some q=>
   rw[hc]at h;obtain⟨k,hk⟩:=jq.1 hc;exact⟨k,by rw[hk];exact h⟩
 case load ag n mix x=>cases mix<;>exact⟨0,by simpa only[aH]using h⟩
 all_goals exact⟨0,by simpa only[aH]using h⟩
section
variable {T : aM} {K : List Kt} {fr : Fr} {S : St}
theorem fh{K1:List Kt}{fr1:Fr}{S1:St}(h:∀k,aW T (k+1) K fr S=aW T k K1 fr1 S1):aF T K fr S=aF T K1 fr1 S1:=by
 refine nV (mB T K fr S) fun x=>?_;rw[iR];constructor
 ·rintro⟨k,e⟩
  cases k with
  |zero=>simp[aW]at e
  |succ k=>exact⟨k,by rw[←h];exact e⟩
 ·rintro⟨k,e⟩;exact⟨k+1,by rw[h];exact e⟩
theorem My(h:∀k,aW T (k+1) K fr S=some (fr,S)):aF T K fr S=some (fr,S):=iR.2 ⟨1,h 0⟩
theorem xC:aF T [] fr S=some (fr,S):=My fun _=>rfl
theorem VV:aF T (.code .skip::K) fr S=aF T K fr S:=fh fun _=>rfl
theorem VW:aF T (.code .ret::K) fr S=some (fr,S):=My fun _=>rfl
theorem VX{n:Nat}:aF T (.code (.exit n)::K) fr S=match fB n K with|some K'=>aF T K' fr S|none=>none:=by
 cases h:fB n K with
 |some K'=>exact fh fun _=>by simp[aW,h]
 |none=>
  refine nV (mB T _ fr S) fun x=>⟨?_,fun h=>by cases h⟩;rintro⟨k,e⟩
  cases k with
  |zero=>simp[aW]at e
  |succ k=>simp[aW,h]at e
theorem Mz{l:List aA}:aF T (.code (.region l)::K) fr S=aF T (.ops l::K) fr S:=fh fun _=>rfl
theorem VY{a b:aN}:aF T (.code (.seq a b)::K) fr S=aF T (.code a::.code b::K) fr S:=fh fun _=>rfl
theorem VZ{n:Nat}{b:aN}:aF T (.code (.block n b)::K) fr S=aF T (.code b::.blk n::K) fr S:=fh fun _=>rfl
theorem Va{b:aN}:aF T (.code (.loop b)::K) fr S=aF T (.lp b::K) fr S:=fh fun _=>rfl
theorem bH{b:aN}:aF T (.lp b::K) fr S=aF T (.code b::.lp b::K) fr S:=fh fun _=>rfl
theorem Vb{b:aN}:aF T (.code (.scope b)::K) fr S=aF T (.code b::K) fr S:=fh fun _=>rfl
theorem Vc{l:List (Nat×Nat)}{b:aN}:aF T (.code (.clr l b)::K) fr S=aF T (.code b::.clr l::K) fr S:=fh fun _=>rfl
theorem Vd{l:List (Nat×Nat)}:aF T (.clr l::K) fr S=aF T K (clrs l fr) S:=fh fun _=>rfl
theorem Ve{n:Nat}:aF T (.blk n::K) fr S=aF T K fr S:=fh fun _=>rfl
theorem xD:aF T (.ops []::K) fr S=aF T K fr S:=fh fun _=>rfl
def br{α:Type}(v:PV)(a b:Option α):Option α:=match v with|.bool true=>a|.bool false=>b|_=>none
theorem Vf{α:Type}{a b:Option α}:br (.bool true) a b=a:=rfl
theorem Vg{α:Type}{a b:Option α}:br (.bool false) a b=b:=rfl
theorem Vh{c:aG}{t e:aN}:aF T (.code (.cond c t e)::K) fr S=br (ev fr c) (aF T (.code t::K) fr S) (aF T (.code e::K) fr S):=by
 have bad:(∀k,aW T (k+1) (.code (.cond c t e)::K) fr S=none)→aF T (.code (.cond c t e)::K) fr S=none:=by
  intro hn;refine nV (mB T _ fr S) fun x=>⟨?_,fun h=>by cases h⟩;rintro⟨k,e⟩
  cases k with
  |zero=>simp[aW]at e
  |succ k=>rw[hn]at e;cases e
 cases h:ev fr c
 case bool b=>cases b<;>exact fh fun _=>by simp[aW,h]
 all_goals exact bad fun k=>by simp[aW,h]
noncomputable def bf (T:aM)(fr:Fr)(S:St)(op:bC):Option (PV×St):=aH T (aS T) fr S op
theorem xE{d:Option Nat}{op:bC}{l:List aA}:aF T (.ops (⟨d,op,none⟩::l)::K) fr S=(bf T fr S op).bind fun x=>aF T (.ops l::K) (aO fr d x.1) x.2:=by
 refine nV (mB T _ fr S) fun x=>?_;constructor
 ·rintro⟨k,e⟩
  cases k with
  |zero=>simp[aW]at e
  |succ k=>
   simp only[aW,bW]at e
   cases hp:aH T (ax T k) fr S op with
   |none=>rw[hp]at e;cases e
   |some q=>
    obtain⟨v,S'⟩:=q;rw[hp]at e;rw[bf,lz (pR T k) hp];exact iR.2 ⟨k,e⟩
 ·intro h;rw[bf]at h
  cases hp:aH T (aS T) fr S op with
  |none=>rw[hp]at h;cases h
  |some q=>
   obtain⟨v,S'⟩:=q;rw[hp]at h;obtain⟨k,hk⟩:=VU hp;obtain⟨j,hj⟩:=iR.1 (show aF T (.ops l::K) (aO fr d v) S'=some x from h);refine⟨max k j+1,?_⟩;simp only[aW,bW,lz (fR T (tq k j)) hk];exact Mx T (tr k j) hj
def fC{α:Type}(v:PV)(b:Bool)(x y:Option α):Option α:=match v with|.bool c=>if c==b then x else y|.tup []=>y|_=>none
theorem jK{d:Option Nat}{op:bC}{l:List aA}{t:Nat}{b:Bool} :
  aF T (.ops (⟨d,op,some (t,b)⟩::l)::K) fr S=fC (fr t) b (aF T (.ops (⟨d,op,none⟩::l)::K) fr S) (aF T (.ops l::K) (aO fr d (.tup [])) S):=by
 have bad:(∀k,aW T (k+1) (.ops (⟨d,op,some (t,b)⟩::l)::K) fr S=none)→aF T (.ops (⟨d,op,some (t,b)⟩::l)::K) fr S=none:=by
  intro hn;refine nV (mB T _ fr S) fun x=>⟨?_,fun h=>by cases h⟩;rintro⟨k,e⟩
  cases k with
  |zero=>simp[aW]at e
  |succ k=>rw[hn]at e;cases e
 cases h:fr t
 case bool c=>
  simp only[fC];by_cases e:c=b
  ·subst e;simp only[beq_self_eq_true,if_true];refine nV (mB T _ fr S) fun x=>?_;rw[iR];constructor
   ·rintro⟨k,q⟩
    cases k with
    |zero=>simp[aW]at q
    |succ k=>exact⟨k+1,by simpa[aW,bW,h]using q⟩
   ·rintro⟨k,q⟩
    cases k with
    |zero=>simp[aW]at q
    |succ k=>exact⟨k+1,by simpa[aW,bW,h]using q⟩
  ·have e':(c==b)=false:=by simpa using e
   simp only[e',bg,if_false];exact fh fun k=>by simp only[aW,bW,h,e']
 case tup vs=>
  cases vs with
  |nil=>exact fh fun k=>by simp only[aW,bW,h]
  |cons=>exact bad fun k=>by simp[aW,bW,h]
 all_goals exact bad fun k=>by simp[aW,bW,h]
theorem NA{f:Nat}{args:List PV}:cE (aS T) .pur f args S=if PV.freeL args then ck S (ef T f (PV.frzL args))else none:=by
 simp only[cE,gT,ef];split<;>rfl
end
theorem pS(T:aM):∀(l:List aA) (k:Nat) (K:List Kt) (fr:Fr) (S:St) (r:Fr×St),aW T k (.ops l::K) fr S=some r →
  ∃fr1 S1 i,aY T (ax T k) l fr S=some (fr1,S1)∧i<k∧aW T i K fr1 S1=some r
 | [],0,_,_,_,_,h=>by simp[aW]at h
 | [],k+1,K,fr,S,r,h=>⟨fr,S,k,rfl,by omega,by simpa only[aW]using h⟩
 |o::l,0,_,_,_,_,h=>by simp[aW]at h
 |o::l,k+1,K,fr,S,r,h=>by
  simp only[aW]at h;simp only[aY]
  cases hw:bW fr o.guard with
  |none=>rw[hw]at h;cases h
  |some b=>
   rw[hw]at h
   cases b with
   |false=>
    obtain⟨fr1,S1,i,h1,h2,h3⟩:=pS T l k K _ _ r h
    exact⟨fr1,S1,i,hJ (fR T (by omega)) h1,by omega,h3⟩
   |true=>
    simp only at h ⊢
    cases hp:aH T (ax T k) fr S o.op with
    |none=>rw[hp]at h;cases h
    |some q=>
     obtain⟨v,S'⟩:=q;rw[hp]at h;obtain⟨fr1,S1,i,h1,h2,h3⟩:=pS T l k K _ _ r h;refine⟨fr1,S1,i,?_,by omega,h3⟩;rw[lz (fR T (by omega:k≤k+1)) hp];exact hJ (fR T (by omega)) h1
def pT(T:aM)(k:Nat)(K:List Kt)(r:Fr×St):Ex→Fr→St→Prop
 |.norm,fr1,S1=>∃i,i<k∧aW T i K fr1 S1=some r
 |.exit m,fr1,S1=>∃K' i,fB m K=some K'∧i<k∧aW T i K' fr1 S1=some r
 |.ret,fr1,S1=>r=(fr1,S1)
theorem pT.mono{T:aM}{k j:Nat}{K:List Kt}{r:Fr×St}{e:Ex}{fr1:Fr}{S1:St}(h:pT T k K r e fr1 S1)(hk:k≤j):pT T j K r e fr1 S1:=by
 cases e with
 |norm=>obtain⟨i,h1,h2⟩:=h;exact⟨i,by omega,h2⟩
 |exit m=>obtain⟨K',i,h0,h1,h2⟩:=h;exact⟨K',i,h0,by omega,h2⟩
 |ret=>exact h
theorem ry(T:aM):∀(k:Nat) (c:aN) (K:List Kt) (fr:Fr) (S:St) (r:Fr×St),aW T k (.code c::K) fr S=some r →
  ∃e fr1 S1,aU T (ax T k) k c fr S=some (e,fr1,S1)∧pT T k K r e fr1 S1:=by
 intro k
 induction k using Nat.strongRecOn with
 |_ k ih=>
  intro c K fr S r h
  cases k with
  |zero=>simp[aW]at h
  |succ k=>
   have lift:∀{c:aN} {fr:Fr} {S:St} {x:Ex×Fr×St},aU T (ax T k) k c fr S=some x→aU T (ax T (k+1)) k c fr S=some x:=fun h=>iQ (fR T (by omega)) (aR _) h;have liftI:∀{i:Nat} {c:aN} {fr:Fr} {S:St} {x:Ex×Fr×St},i≤k→aU T (ax T i) i c fr S=some x→aU T (ax T (k+1)) k c fr S=some x:=fun hi h=>iQ (fR T (by omega)) hi h
   cases c with
   |skip=>simp only[aW]at h;exact⟨.norm,fr,S,rfl,k,by omega,h⟩
   |ret=>simp only[aW,ae]at h;exact⟨.ret,fr,S,rfl,h.symm⟩
   |bad=>simp[aW]at h
   |exit n=>
    simp only[aW]at h
    cases hx:fB n K with
    |none=>rw[hx]at h;cases h
    |some K'=>rw[hx]at h;exact⟨.exit n,fr,S,rfl,K',k,hx,by omega,h⟩
   |region l=>
    simp only[aW]at h;obtain⟨fr1,S1,i,h1,h2,h3⟩:=pS T l k K fr S r h;refine⟨.norm,fr1,S1,?_,i,by omega,h3⟩;simp only[aU]
    rw[hJ (fR T (by omega:k≤k+1)) h1]
   |seq a b=>
    simp only[aW]at h;obtain⟨e,fr1,S1,h1,h2⟩:=ih k (by omega) a _ fr S r h
    cases e with
    |norm=>
     obtain⟨i,hi,h3⟩:=h2;obtain⟨e2,fr2,S2,h4,h5⟩:=ih i (by omega) b _ fr1 S1 r h3;refine⟨e2,fr2,S2,?_,h5.mono (by omega)⟩;simp only[aU];rw[lift h1]
     exact liftI (by omega) h4
    |exit m=>
     refine⟨.exit m,fr1,S1,?_,?_⟩
     ·simp only[aU];rw[lift h1]
     ·obtain⟨K',i,q1,q2,q3⟩:=h2
      exact⟨K',i,by simpa only[fB]using q1,by omega,q3⟩
    |ret=>exact⟨.ret,fr1,S1,by simp only[aU];rw[lift h1],h2⟩
   |cond x a b=>
    simp only[aW]at h;cases hx:ev fr x<;>rw[hx]at h<;>try (cases h;done)
    rename_i q
    cases q with
    |true=>
     obtain⟨e,fr1,S1,h1,h2⟩:=ih k (by omega) a _ fr S r h
     exact⟨e,fr1,S1,by simp only[aU,hx];exact lift h1,h2.mono (by omega)⟩
    |false=>
     obtain⟨e,fr1,S1,h1,h2⟩:=ih k (by omega) b _ fr S r h
     exact⟨e,fr1,S1,by simp only[aU,hx];exact lift h1,h2.mono (by omega)⟩
   |block n b=>
    simp only[aW]at h;obtain⟨e,fr1,S1,h1,h2⟩:=ih k (by omega) b _ fr S r h
    cases e with
    |norm=>
     obtain⟨i,hi,h3⟩:=h2
     cases i with
     |zero=>simp[aW]at h3
     |succ i=>
      simp only[aW]at h3
      exact⟨.norm,fr1,S1,by simp only[aU];rw[lift h1],i,by omega,h3⟩
    |exit m=>
     obtain⟨K',i,q1,q2,q3⟩:=h2;simp only[fB]at q1;by_cases hm:m=n
     ·rw[if_pos hm]at q1;cases q1;exact⟨.norm,fr1,S1,by simp only[aU];rw[lift h1];simp[hm],i,by omega,q3⟩
     ·rw[if_neg hm]at q1
      exact⟨.exit m,fr1,S1,by simp only[aU];rw[lift h1];simp[hm],K',i,q1,by omega,q3⟩
    |ret=>exact⟨.ret,fr1,S1,by simp only[aU];rw[lift h1],h2⟩
   |rng pre x en post l b=>
    simp only[aW]at h;obtain⟨fr1,S1,i,h1,h2,h3⟩:=pS T pre k _ fr S r h
    cases i with
    |zero=>simp[aW]at h3
    |succ i=>
     simp only[aW]at h3
     cases hr:iP T (ax T i) (fun fr S=>aU T (ax T i) i b fr S) x en post l fr1 S1 with
     |none=>rw[hr]at h3;cases h3
     |some q=>
      obtain⟨fr',S'⟩:=q;rw[hr]at h3;refine⟨.norm,fr',S',?_,i,by omega,h3⟩;simp only[aU];rw[hJ (fR T (by omega:k≤k+1)) h1];simp only
      rw[rn (fR T (by omega:i≤k+1)) (fun _ _ _ e=>iQ (fR T (by omega:i≤k+1)) (by omega:i≤k) e) hr]
   |scope b=>
    simp only[aW]at h;obtain⟨e,fr1,S1,h1,h2⟩:=ih k (by omega) b _ fr S r h
    exact⟨e,fr1,S1,by simp only[aU];exact lift h1,h2.mono (by omega)⟩
   |clr l b=>
    simp only[aW]at h;obtain⟨e,fr1,S1,h1,h2⟩:=ih k (by omega) b _ fr S r h
    cases e with
    |norm=>
     obtain⟨i,hi,h3⟩:=h2
     cases i with
     |zero=>simp[aW]at h3
     |succ i=>
      simp only[aW]at h3
      exact⟨.norm,clrs l fr1,S1,by simp only[aU];rw[lift h1],i,by omega,h3⟩
    |exit m=>
     refine⟨.exit m,fr1,S1,?_,?_⟩
     ·simp only[aU];rw[lift h1]
     ·obtain⟨K',i,q1,q2,q3⟩:=h2
      exact⟨K',i,by simpa only[fB]using q1,by omega,q3⟩
    |ret=>exact⟨.ret,fr1,S1,by simp only[aU];rw[lift h1],h2⟩
   |loop b=>
    simp only[aW]at h
    cases k with
    |zero=>simp[aW]at h
    |succ k=>
     simp only[aW]at h;obtain⟨e,fr1,S1,h1,h2⟩:=ih k (by omega) b _ fr S r h;have h1':=liftI (i:=k) (by omega) h1
     cases e with
     |norm=>
      obtain⟨i,hi,h3⟩:=h2;obtain⟨e2,fr2,S2,h4,h5⟩:=ih (i+1) (by omega) (.loop b) K fr1 S1 r (by simp only[aW];exact h3);refine⟨e2,fr2,S2,?_,h5.mono (by omega)⟩;simp only[aU]at h1' ⊢;rw[h1']
      exact liftI (by omega) h4
     |exit m=>
      refine⟨.exit m,fr1,S1,?_,?_⟩
      ·simp only[aU];rw[h1']
      ·obtain⟨K',i,q1,q2,q3⟩:=h2
       exact⟨K',i,by simpa only[fB]using q1,by omega,q3⟩
     |ret=>exact⟨.ret,fr1,S1,by simp only[aU];rw[h1'],h2⟩
def NB{α:Type}(a:α):List α→List (List α)
 | []=>[[a]]
 |b::l=>(a::b::l)::(NB a l).map (b :: ·)
def Vi{α:Type}:List α→List (List α)
 | []=>[[]]
 |a::l=>(Vi l).flatMap (NB a)
def Vj(T:aM)(id:Nat)(cs:List PV)(en:Nat)(post:List aA)(l:List (Nat×Nat))(b:aN):List (PV×PV)→Fr→St→Fr×St→Prop
 | [],fr,S,r=>r=(fr,S)
 |(k,v)::p,fr,S,r=>∃fr1 S1,(∀K,aF T (.ops post::.code b::.clr l::K) (upd fr en (.tup [k,v])) S=aF T K fr1 S1)∧S1.objs[id]?=some cs∧Vj T id cs en post l b p fr1 S1 r
theorem Vk(v:PV):∃u:PV,u≠v:=by
 cases v with
 |nilp=>exact⟨.nils,by simp⟩
 |_=>exact⟨.nilp,by simp⟩
section
variable {T : aM} {K : List Kt} {fr : Fr} {S : St}
end
theorem Vl{T:aM}{f:Nat}(c:aT){args:List PV}{S:St}{x:PV×St}(hf:T.fn f=some (.code c))(ha:args.length=c.params)
  (h:((aF T [.code c.body] (bX args) S).bind fun y=>(bb y.1 y.2 c.results).map fun vs=>ac c.raw S y.2 (bP vs))=some x):aS T f args S=some x:=by
 cases hg:aF T [.code c.body] (bX args) S with
 |none=>rw[hg]at h;cases h
 |some y=>
  obtain⟨fr',S1⟩:=y;rw[hg]at h;simp only[tz]at h
  cases hr:bb fr' S1 c.results with
  |none=>rw[hr]at h;cases h
  |some vs=>
   rw[hr]at h;simp only[ip,ae]at h;obtain⟨k,hk⟩:=iR.1 hg;obtain⟨e,fr1,S2,h1,h2⟩:=ry T k c.body [] (bX args) S _ hk;refine xB (k+1) ?_;simp only[ax,hf,ha,if_true,h1]
   cases e with
   |norm=>
    obtain⟨i,hi,h3⟩:=h2
    cases i with
    |zero=>simp[aW]at h3
    |succ i=>
     simp only[aW,ae,ba]at h3;obtain⟨rfl,rfl⟩:=h3
     simp only[hr,h]
   |exit m=>obtain⟨K',i,q1,_⟩:=h2;simp[fB]at q1
   |ret=>
    have:(fr',S1)=(fr1,S2):=h2;cases this;simp only[hr,h]
end Ps
