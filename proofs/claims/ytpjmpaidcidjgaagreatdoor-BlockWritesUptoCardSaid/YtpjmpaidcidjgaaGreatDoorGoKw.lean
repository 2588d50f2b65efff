/- A flat machine over the pure semantics, with one equation a form of code: for walking through a function by rewriting. -/
import Derived.Test.YtpjmpaidcidjgaaGreatDoorAbbKw
import Derived.Test.YtpjmpaidcidjgaaGreatDoorDefsKw
namespace Ps
open Go
def fe(c d:af):Prop:=∀f args S r,c f args S=some r→d f args S=some r
theorem YX{c d:af}(h:fe c d){keep:Bool}{S:St}{f:Nat}{args:List PV}{r:PV×St}(e:ma keep S (c f args S)=some r):ma keep S (d f args S)=some r:=by
 cases hc:c f args S with
 |none=>rw[hc]at e;cases e
 |some q=>rw[hc]at e;rw[h _ _ _ _ hc];exact e
theorem YY{c d:af}(h:fe c d){f:Nat}{args:List PV}{r:PV}(e:iJ c f args=some r):iJ d f args=some r:=by
 unfold iJ at e ⊢;split at e
 ·rename_i hf;rw[if_pos hf]
  cases hc:c f (PV.frzL args) bT with
  |none=>rw[hc]at e;cases e
  |some q=>rw[hc]at e;rw[h _ _ _ _ hc];exact e
 ·cases e
theorem YZ{c d:af}(h:fe c d){f:Nat}{args:List PV}{S:St}{r:PV}(e:lD c f args S=some r):lD d f args S=some r:=by
 unfold lD at e ⊢
 cases hs:cT (sol S.objs 0 eF) args with
 |none=>rw[hs]at e;cases e
 |some as=>
  rw[hs]at e;simp only at e ⊢
  cases hc:c f (PV.frzL as) bT with
  |none=>rw[hc]at e;cases e
  |some q=>rw[hc]at e;rw[h _ _ _ _ hc];exact e
theorem yh{c d:af}(h:fe c d){m:CM}{f:Nat}{args:List PV}{S:St}{r:PV×St}(e:ck c m f args S=some r):ck d m f args S=some r:=by
 cases m with
 |std=>exact h _ _ _ _ e
 |keep=>exact YX h e
 |pur=>
  simp only[ck]at e ⊢
  cases hc:iJ c f args with
  |none=>rw[hc]at e;cases e
  |some q=>rw[hc]at e;rw[YY h hc];exact e
 |snap=>
  simp only[ck]at e ⊢
  cases hc:lD c f args S with
  |none=>rw[hc]at e;cases e
  |some q=>rw[hc]at e;rw[YZ h hc];exact e
theorem mg{T:aQ}{c d:af}(h:fe c d){fr:Fr}{S:St}{op:bO}{r:PV×St}(e:aH T c fr S op=some r):aH T d fr S op=some r:=by
 cases op
 case call m f xs=>simp only[aH]at e ⊢;exact yh h e
 case callv m x xs=>
  simp only[aH]at e ⊢;cases hx:ev fr x<;>rw[hx]at e<;>first|exact yh h e|cases e
 case inv cm m x xs=>
  simp only[aH]at e ⊢;cases hx:ev fr x<;>rw[hx]at e<;>try (cases e;done)
  rename_i t v;simp only at e ⊢
  cases hm:T.meth t m with
  |none=>rw[hm]at e;cases e
  |some f=>rw[hm]at e;exact yh h e
 case callb b f xs=>
  simp only[aH]at e ⊢;cases hx:fr b<;>rw[hx]at e<;>try (cases e;done)
  simp only at e ⊢
  cases hc:c f (xs.map (ev fr)) S with
  |none=>rw[hc]at e;cases e
  |some q=>rw[hc]at e;rw[h _ _ _ _ hc];exact e
 case load ag n mix x=>cases mix<;>simpa only[aH]using e
 all_goals simpa only[aH]using e
theorem ii{T:aQ}{c d:af}(h:fe c d):∀{l:List aB} {fr:Fr} {S:St} {r:Fr×St},ah T c l fr S=some r→ah T d l fr S=some r
 | [],_,_,_,e=>e
 |o::l,fr,S,r,e=>by
  simp only[ah]at e ⊢
  cases hw:bq fr o.guard with
  |none=>rw[hw]at e;cases e
  |some b=>
   rw[hw]at e
   cases b with
   |false=>exact ii h e
   |true=>
    simp only at e ⊢
    cases hp:aH T c fr S o.op with
    |none=>rw[hp]at e;cases e
    |some q=>
     obtain⟨v,S'⟩:=q;rw[hp]at e;rw[mg h hp];exact ii h e
theorem Pc{it it':PV→PV→Fr→St→Option (Fr×St)}(h:∀k v fr S r,it k v fr S=some r→it' k v fr S=some r):∀{l:List (PV×PV)} {fr:Fr} {S:St} {r:Fr×St},lF it l fr S=some r→lF it' l fr S=some r
 | [],_,_,_,e=>e
 |(k,v)::l,fr,S,r,e=>by
  simp only[lF]at e ⊢
  cases hp:it k v fr S with
  |none=>rw[hp]at e;cases e
  |some q=>rw[hp]at e;rw[h _ _ _ _ _ hp];exact Pc h e
theorem Ya{α:Type}{p l:List α}(h:p.Perm l)(hl:l.length≤1):p=l:=by
 match l,hl with
 | [],_=>exact h.eq_nil
 | [x],_=>exact List.perm_singleton.1 h
theorem Pd{it:PV→PV→Fr→St→Option (Fr×St)}{l:List (PV×PV)}{fr:Fr}{S:St}{r:Fr×St}:qo it l fr S=some r↔∀p:List (PV×PV),p.Perm l→lF it p fr S=some r:=by
  unfold qo;constructor
  · intro e p hp
    cases hr:lF it l fr S with
    |none=>rw[hr]at e;cases e
    |some q=>
      rw[hr]at e;simp only at e;split at e
      · rename_i h1;cases e;rw[Ya hp h1];exact hr
      · split at e
        · rename_i h2;cases e;exact h2 p hp
        · cases e
  · intro h
    rw[h l (vR _)];simp only;split
    · rfl
    · first
      |rfl
      | (split
         · rfl
         · rename_i h2;exact absurd h h2)
theorem Yb{it it':PV→PV→Fr→St→Option (Fr×St)}(h:∀k v fr S r,it k v fr S=some r→it' k v fr S=some r){l:List (PV×PV)}{fr:Fr}{S:St}{r:Fr×St}(e:qo it l fr S=some r):qo it' l fr S=some r:=
 Pd.2 fun p hp=>Pc h (Pd.1 e p hp)
theorem Yc{T:aQ}{c d:af}(h:fe c d){run run':Fr→St→Option (Ex×Fr×St)}(hr:∀fr S r,run fr S=some r→run' fr S=some r){id:Nat}{cs:List PV}{en:Nat}{post:List aB}{l:List (Nat×Nat)}{k v:PV}{fr:Fr}{S:St}{r:Fr×St}
  (e:tZ T c run id cs en post l k v fr S=some r):tZ T d run' id cs en post l k v fr S=some r:=by
 unfold tZ at e ⊢
 cases hp:ah T c post (aS fr (some en) (.tup [k,v])) S with
 |none=>rw[hp]at e;cases e
 |some q=>
  obtain⟨fr2,S2⟩:=q;rw[hp]at e;rw[ii h hp];simp only at e ⊢
  cases hb:run fr2 S2 with
  |none=>rw[hb]at e;cases e
  |some q=>rw[hb]at e;rw[hr _ _ _ hb];exact e
theorem ti{T:aQ}{c d:af}(h:fe c d){run run':Fr→St→Option (Ex×Fr×St)}(hr:∀fr S r,run fr S=some r→run' fr S=some r){x:aG}{en:Nat}{post:List aB}{l:List (Nat×Nat)}{fr:Fr}{S:St}{r:Fr×St}
  (e:jD T c run x en post l fr S=some r):jD T d run' x en post l fr S=some r:=by
 unfold jD at e ⊢;cases hx:ev fr x<;>rw[hx]at e<;>try (cases e;done)
 rename_i id;simp only at e ⊢
 cases hc:S.objs[id]? with
 |none=>rw[hc]at e;cases e
 |some cs=>
  rw[hc]at e;exact Yb (fun k v fr S r=>Yc h hr) e
theorem jE{T:aQ}{c d:af}(h:fe c d):∀{k j:Nat} {code:aL} {fr:Fr} {S:St} {r:Ex×Fr×St},k≤j→aY T c k code fr S=some r→aY T d j code fr S=some r:=by
 intro k
 induction k with
 |zero=>intro j code fr S r _ e;simp[aY]at e
 |succ k ih=>
  intro j code fr S r hkj e;obtain⟨j,rfl⟩:∃i,j=i+1:=⟨j-1,by omega⟩;have hkj':k≤j:=by omega
  cases code with
  |skip=>exact e
  |ret=>exact e
  |exit n=>exact e
  |bad=>simp[aY]at e
  |region ops=>
   simp only[aY]at e ⊢
   cases hp:ah T c ops fr S with
   |none=>rw[hp]at e;cases e
   |some q=>rw[hp]at e;rw[ii h hp];exact e
  |seq a b=>
   simp only[aY]at e ⊢
   cases hp:aY T c k a fr S with
   |none=>rw[hp]at e;cases e
   |some q=>
    obtain⟨ex,fr1,S1⟩:=q;rw[hp]at e;rw[ih hkj' hp]
    cases ex with
    |norm=>exact ih hkj' e
    |exit n=>exact e
    |ret=>exact e
  |cond x a b=>
   simp only[aY]at e ⊢;cases hx:ev fr x<;>rw[hx]at e<;>try (cases e;done)
   rename_i q
   cases q<;>exact ih hkj' e
  |block n b=>
   simp only[aY]at e ⊢
   cases hp:aY T c k b fr S with
   |none=>rw[hp]at e;cases e
   |some q=>
    rw[hp]at e;rw[ih hkj' hp];exact e
  |scope b=>
   simp only[aY]at e ⊢
   exact ih hkj' e
  |clr l b=>
   simp only[aY]at e ⊢
   cases hp:aY T c k b fr S with
   |none=>rw[hp]at e;cases e
   |some q=>rw[hp]at e;rw[ih hkj' hp];exact e
  |rng pre x en post l b=>
   simp only[aY]at e ⊢
   cases hp:ah T c pre fr S with
   |none=>rw[hp]at e;cases e
   |some q=>
    obtain⟨fr1,S1⟩:=q;rw[hp]at e;rw[ii h hp];simp only at e ⊢
    cases hr:jD T c (fun fr S=>aY T c k b fr S) x en post l fr1 S1 with
    |none=>rw[hr]at e;cases e
    |some q=>
     rw[hr]at e;rw[ti h (fun _ _ _ e=>ih hkj' e) hr]
     exact e
  |loop b=>
   simp only[aY]at e ⊢
   cases hp:aY T c k b fr S with
   |none=>rw[hp]at e;cases e
   |some q=>
    obtain⟨ex,fr1,S1⟩:=q;rw[hp]at e;rw[ih hkj' hp]
    cases ex with
    |norm=>exact ih hkj' e
    |exit n=>exact e
    |ret=>exact e
theorem Pe{T:aQ}{c d:af}(h:fe c d){k j:Nat}(hkj:k≤j):∀{l:List aL} {fr:Fr} {S:St} {r:Fr×St},ji T c k l fr S=some r→ji T d j l fr S=some r
 | [],_,_,_,e=>e
 |p::l,fr,S,r,e=>by
  simp only[ji]at e ⊢
  cases hp:aY T c k p fr S with
  |none=>rw[hp]at e;cases e
  |some q=>
   rw[hp]at e;rw[jE h hkj hp];obtain⟨x,fr1,S1⟩:=q
   cases x with
   |norm=>exact Pe h hkj e
   |exit m=>cases e
   |ret=>cases e
theorem Yd{c d:af}(h:fe c d){cf:Nat}{caps:List PV}{fr:Fr}{S:St}{r:Fr×St}(e:qp c cf caps fr S=some r):qp d cf caps fr S=some r:=by
 unfold qp at e ⊢
 cases hc:c cf caps S with
 |none=>rw[hc]at e;cases e
 |some q=>rw[hc]at e;rw[h _ _ _ _ hc];exact e
theorem Ye{T:aQ}{c d:af}(h:fe c d){k j:Nat}(hkj:k≤j){b:aU}{caps:List PV}{fr:Fr}{S:St}{r:Fr×St}(e:lH T c k b caps fr S=some r):lH T d j b caps fr S=some r:=by
 unfold lH at e ⊢;split at e
 ·rename_i ha;rw[if_pos ha]
  cases hp:aY T c k b.body (bg caps) S with
  |none=>rw[hp]at e;cases e
  |some q=>rw[hp]at e;rw[jE h hkj hp];exact e
 ·cases e
theorem Pf{T:aQ}{c d:af}(h:fe c d){k j:Nat}(hkj:k≤j){f:eN}{cf:Nat}{caps:List PV}{fr:Fr}{S:St}{r:Fr×St}(e:jk T c k f cf caps fr S=some r):jk T d j f cf caps fr S=some r:=by
 unfold jk at e ⊢;split at e
 ·split at e
  ·rename_i hcf;rw[if_pos hcf];exact Yd h e
  ·cases e
 ·split at e
  ·rename_i hcf;rw[if_pos hcf];exact Ye h hkj e
  ·cases e
theorem Pg{T:aQ}{c d:af}(h:fe c d){k j:Nat}(hkj:k≤j){f:eN}{fr:Fr}{S:St}{r:Fr×St}(e:jl T c k f fr S=some r):jl T d j f fr S=some r:=by
 unfold jl at e ⊢
 cases hp:ji T c k f.pre fr S with
 |none=>rw[hp]at e;cases e
 |some q=>
  obtain⟨fr1,S1⟩:=q;rw[hp]at e;rw[Pe h hkj hp];simp only at e ⊢
  cases ho:ah T c [f.clo] fr1 S1 with
  |none=>rw[ho]at e;cases e
  |some q=>
   obtain⟨fr2,S2⟩:=q;rw[ho]at e;rw[ii h ho];simp only at e ⊢;cases ht:fr2 f.t<;>rw[ht]at e<;>try (cases e;done)
   rename_i cf caps;simp only at e ⊢
   cases hr:aY T c k f.rest fr2 S2 with
   |none=>rw[hr]at e;cases e
   |some q=>
    obtain⟨x,fr3,S3⟩:=q;rw[hr]at e;rw[jE h hkj hr]
    cases x with
    |norm=>exact Pf h hkj e
    |exit m=>cases e
    |ret=>exact Pf h hkj e
theorem fv(T:aQ):∀{k j:Nat},k≤j→fe (bH T k) (bH T j):=by
 intro k
 induction k with
 |zero=>intro j _ f args S r e;simp[bH]at e
 |succ k ih=>
  intro j hkj f args S r e;obtain⟨j,rfl⟩:∃i,j=i+1:=⟨j-1,by omega⟩;simp only[bH]at e ⊢
  cases hf:T.fn f with
  |none=>rw[hf]at e;cases e
  |some pf=>
   rw[hf]at e
   cases pf with
   |indexByte=>exact e
   |ext _=>exact e
   |exs _=>exact e
   |codeD c=>
    simp only at e ⊢;split at e
    ·rename_i ha;rw[if_pos ha]
     cases hp:jl T (bH T k) k c (bg args) S with
     |none=>rw[hp]at e;cases e
     |some q=>
      rw[hp]at e;rw[Pg (ih (by omega:k≤j)) (by omega) hp];exact e
    ·cases e
   |code c=>
    simp only at e ⊢;split at e
    ·rename_i ha;rw[if_pos ha]
     cases hp:aY T (bH T k) k c.body (bg args) S with
     |none=>rw[hp]at e;cases e
     |some q=>
      rw[hp]at e;rw[jE (ih (by omega:k≤j)) (by omega) hp];exact e
    ·cases e
inductive Kt where
 |code (c:aL)
 |ops (l:List aB)
 |blk (n:Nat)
 |lp (b:aL)
 |clr (l:List (Nat×Nat))
 |rg (x:aG) (en:Nat) (post:List aB) (l:List (Nat×Nat)) (b:aL)
def ff(n:Nat):List Kt→Option (List Kt)
 | []=>none
 |.blk m::K=>if n=m then some K else ff n K
 |_::K=>ff n K
noncomputable def ae (T:aQ):Nat→List Kt→Fr→St→Option (Fr×St)
 |0,_,_,_=>none
 |_+1,[],fr,S=>some (fr,S)
 |k+1,.code .skip::K,fr,S=>ae T k K fr S
 |_+1,.code .ret::_,fr,S=>some (fr,S)
 |k+1,.code (.exit n)::K,fr,S=>match ff n K with|some K'=>ae T k K' fr S|none=>none
 |k+1,.code (.region l)::K,fr,S=>ae T k (.ops l::K) fr S
 |k+1,.code (.seq a b)::K,fr,S=>ae T k (.code a::.code b::K) fr S
 |k+1,.code (.cond c t e)::K,fr,S=>match ev fr c with
  |.bool true=>ae T k (.code t::K) fr S
  |.bool false=>ae T k (.code e::K) fr S
  |_=>none
 |k+1,.code (.block n b)::K,fr,S=>ae T k (.code b::.blk n::K) fr S
 |k+1,.code (.loop b)::K,fr,S=>ae T k (.lp b::K) fr S
 |_+1,.code .bad::_,_,_=>none
 |k+1,.lp b::K,fr,S=>ae T k (.code b::.lp b::K) fr S
 |k+1,.code (.clr l b)::K,fr,S=>ae T k (.code b::.clr l::K) fr S
 |k+1,.code (.scope b)::K,fr,S=>ae T k (.code b::K) fr S
 |k+1,.clr l::K,fr,S=>ae T k K (clrs l fr) S
 |k+1,.code (.rng pre x en post l b)::K,fr,S=>ae T k (.ops pre::.rg x en post l b::K) fr S
 |k+1,.rg x en post l b::K,fr,S=>match jD T (bH T k) (fun fr S=>aY T (bH T k) k b fr S) x en post l fr S with
  |some (fr',S')=>ae T k K fr' S'
  |none=>none
 |k+1,.blk _::K,fr,S=>ae T k K fr S
 |k+1,.ops []::K,fr,S=>ae T k K fr S
 |k+1,.ops (o::l)::K,fr,S=>match bq fr o.guard with
  |none=>none
  |some false=>ae T k (.ops l::K) (aS fr o.dst (.tup [])) S
  |some true=>match aH T (bH T k) fr S o.op with
   |some (v,S')=>ae T k (.ops l::K) (aS fr o.dst v) S'
   |none=>none
theorem Ph(T:aQ):∀{k j:Nat} {K:List Kt} {fr:Fr} {S:St} {r:Fr×St},k≤j→ae T k K fr S=some r→ae T j K fr S=some r:=by
 intro k
 induction k with
 |zero=>intro j K fr S r _ e;simp[ae]at e
 |succ k ih=>
  intro j K fr S r hkj e;obtain⟨j,rfl⟩:∃i,j=i+1:=⟨j-1,by omega⟩;have hk:k≤j:=by omega
  match K with
  | []=>exact e
  |.code .skip::K=>simp only[ae]at e ⊢;exact ih hk e
  |.code .ret::_=>exact e
  |.code (.exit n)::K=>
   simp only[ae]at e ⊢
   cases hx:ff n K with
   |none=>rw[hx]at e;cases e
   |some K'=>rw[hx]at e;exact ih hk e
  |.code (.region l)::K=>simp only[ae]at e ⊢;exact ih hk e
  |.code (.seq a b)::K=>simp only[ae]at e ⊢;exact ih hk e
  |.code (.cond c t el)::K=>
   simp only[ae]at e ⊢;cases hx:ev fr c<;>rw[hx]at e<;>try (cases e;done)
   rename_i q
   cases q<;>exact ih hk e
  |.code (.block n b)::K=>simp only[ae]at e ⊢;exact ih hk e
  |.code (.loop b)::K=>simp only[ae]at e ⊢;exact ih hk e
  |.code .bad::K=>simp[ae]at e
  |.lp b::K=>simp only[ae]at e ⊢;exact ih hk e
  |.blk n::K=>simp only[ae]at e ⊢;exact ih hk e
  |.code (.clr l b)::K=>simp only[ae]at e ⊢;exact ih hk e
  |.code (.scope b)::K=>simp only[ae]at e ⊢;exact ih hk e
  |.clr l::K=>simp only[ae]at e ⊢;exact ih hk e
  |.code (.rng pre x en post l b)::K=>simp only[ae]at e ⊢;exact ih hk e
  |.rg x en post l b::K=>
   simp only[ae]at e ⊢
   cases hr:jD T (bH T k) (fun fr S=>aY T (bH T k) k b fr S) x en post l fr S with
   |none=>rw[hr]at e;cases e
   |some q=>
    obtain⟨fr',S'⟩:=q;rw[hr]at e;rw[ti (fv T hk) (fun _ _ _ e=>jE (fv T hk) hk e) hr]
    exact ih hk e
  |.ops []::K=>simp only[ae]at e ⊢;exact ih hk e
  |.ops (o::l)::K=>
   simp only[ae]at e ⊢
   cases hw:bq fr o.guard with
   |none=>rw[hw]at e;cases e
   |some b=>
    rw[hw]at e
    cases b with
    |false=>exact ih hk e
    |true=>
     simp only at e ⊢
     cases hp:aH T (bH T k) fr S o.op with
     |none=>rw[hp]at e;cases e
     |some q=>
      obtain⟨v,S'⟩:=q;rw[hp]at e;rw[mg (fv T hk) hp];exact ih hk e
open Classical in
noncomputable def oM {α:Type}(f:Nat→Option α):Option α:=if h:∃k x,f k=some x then f (Classical.choose h)else none
def tj{α:Type}(f:Nat→Option α):Prop:=∀k j x,k≤j→f k=some x→f j=some x
theorem yi{α:Type}{f:Nat→Option α}(hm:tj f){x:α}:oM f=some x↔∃k,f k=some x:=by
 constructor
 ·intro h;unfold oM at h;split at h
  ·exact⟨_,h⟩
  ·cases h
 ·rintro⟨k,hk⟩;unfold oM;have h:∃k x,f k=some x:=⟨k,x,hk⟩;rw[dif_pos h];obtain⟨y,hy⟩:=Classical.choose_spec h;have h1:=hm _ (max (Classical.choose h) k) y (vl _ _) hy;have h2:=hm _ (max (Classical.choose h) k) x (vm _ _) hk;rw[h1]at h2;cases h2;exact hy
theorem oN{α:Type}{f:Nat→Option α}(hm:tj f){y:Option α}(h:∀x,(∃k,f k=some x)↔y=some x):oM f=y:=by
 apply Option.ext;intro x;rw[yi hm];exact h x
noncomputable def aM (T:aQ):af:=fun f args S=>oM fun k=>bH T k f args S
noncomputable def aE (T:aQ)(K:List Kt)(fr:Fr)(S:St):Option (Fr×St):=oM fun k=>ae T k K fr S
noncomputable def di (T:aQ)(f:Nat)(args:List PV):Option PV:=tW (aM T f args bT)
theorem Yf(T:aQ)(f:Nat)(args:List PV)(S:St):tj fun k=>bH T k f args S:=fun _ _ _ h e=>fv T h _ _ _ _ e
theorem mh(T:aQ)(K:List Kt)(fr:Fr)(S:St):tj fun k=>ae T k K fr S:=fun _ _ _ h e=>Ph T h e
theorem kO{T:aQ}{f:Nat}{args:List PV}{S:St}{x:PV×St}:aM T f args S=some x↔∃k,bH T k f args S=some x:=yi (Yf T f args S)
theorem jF{T:aQ}{K:List Kt}{fr:Fr}{S:St}{x:Fr×St}:aE T K fr S=some x↔∃k,ae T k K fr S=some x:=yi (mh T K fr S)
theorem qv(T:aQ)(k:Nat):fe (bH T k) (aM T):=fun _ _ _ _ e=>kO.2 ⟨k,e⟩
theorem yj{T:aQ}(k:Nat){f:Nat}{args:List PV}{S:St}{x:PV×St}(h:bH T k f args S=some x):aM T f args S=some x:=kO.2 ⟨k,h⟩
theorem Yg{T:aQ}{fr:Fr}{S:St}{op:bO}{x:PV×St}(h:aH T (aM T) fr S op=some x):∃k,aH T (bH T k) fr S op=some x:=by
 have key:∀{m:CM} {f:Nat} {args:List PV},ck (aM T) m f args S=some x→∃k,ck (bH T k) m f args S=some x:=by
  intro m f args h
  cases m with
  |std=>exact kO.1 h
  |keep=>
   simp only[ck]at h ⊢
   cases hc:aM T f args S with
   |none=>rw[hc]at h;cases h
   |some q=>
    rw[hc]at h;obtain⟨k,hk⟩:=kO.1 hc
    exact⟨k,by rw[hk];exact h⟩
  |pur=>
   simp only[ck,iJ]at h ⊢;split at h
   ·rename_i hf
    cases hc:aM T f (PV.frzL args) bT with
    |none=>rw[hc]at h;cases h
    |some q=>
     rw[hc]at h;obtain⟨k,hk⟩:=kO.1 hc;exact⟨k,by rw[if_pos hf,hk];exact h⟩
   ·cases h
  |snap=>
   simp only[ck,lD]at h ⊢
   cases hs:cT (sol S.objs 0 eF) args with
   |none=>rw[hs]at h;cases h
   |some as=>
    rw[hs]at h;simp only at h ⊢
    cases hc:aM T f (PV.frzL as) bT with
    |none=>rw[hc]at h;cases h
    |some q=>
     rw[hc]at h;obtain⟨k,hk⟩:=kO.1 hc;exact⟨k,by rw[hk];exact h⟩
 cases op
 case call m f xs=>simp only[aH]at h ⊢;exact key h
 case callv m x xs=>
  simp only[aH]at h ⊢;cases hx:ev fr x<;>rw[hx]at h<;>first|exact key h|cases h
 case inv cm m x xs=>
  simp only[aH]at h ⊢;cases hx:ev fr x<;>rw[hx]at h<;>try (cases h;done)
  rename_i t v;simp only at h ⊢
  cases hm:T.meth t m with
  |none=>rw[hm]at h;cases h
  |some f=>rw[hm]at h;exact key h
 case callb b f xs=>
  simp only[aH]at h ⊢;cases hx:fr b<;>rw[hx]at h<;>try (cases h;done)
  simp only at h ⊢
  cases hc:aM T f (xs.map (ev fr)) S with
  |none=>rw[hc]at h;cases h
  |some q=>
   rw[hc]at h;obtain⟨k,hk⟩:=kO.1 hc;exact⟨k,by rw[hk];exact h⟩
 case load ag n mix x=>cases mix<;>exact⟨0,by simpa only[aH]using h⟩
 all_goals exact⟨0,by simpa only[aH]using h⟩
section
variable {T : aQ} {K : List Kt} {fr : Fr} {S : St}
theorem gQ{K1:List Kt}{fr1:Fr}{S1:St}(h:∀k,ae T (k+1) K fr S=ae T k K1 fr1 S1):aE T K fr S=aE T K1 fr1 S1:=by
 refine oN (mh T K fr S) fun x=>?_;rw[jF];constructor
 ·rintro⟨k,e⟩
  cases k with
  |zero=>simp[ae]at e
  |succ k=>exact⟨k,by rw[←h];exact e⟩
 ·rintro⟨k,e⟩;exact⟨k+1,by rw[h];exact e⟩
theorem Pi(h:∀k,ae T (k+1) K fr S=some (fr,S)):aE T K fr S=some (fr,S):=jF.2 ⟨1,h 0⟩
theorem yk:aE T [] fr S=some (fr,S):=Pi fun _=>rfl
theorem Yh:aE T (.code .skip::K) fr S=aE T K fr S:=gQ fun _=>rfl
theorem Yi:aE T (.code .ret::K) fr S=some (fr,S):=Pi fun _=>rfl
theorem Yj{n:Nat}:aE T (.code (.exit n)::K) fr S=match ff n K with|some K'=>aE T K' fr S|none=>none:=by
 cases h:ff n K with
 |some K'=>exact gQ fun _=>by simp[ae,h]
 |none=>
  refine oN (mh T _ fr S) fun x=>⟨?_,fun h=>by cases h⟩;rintro⟨k,e⟩
  cases k with
  |zero=>simp[ae]at e
  |succ k=>simp[ae,h]at e
theorem Pj{l:List aB}:aE T (.code (.region l)::K) fr S=aE T (.ops l::K) fr S:=gQ fun _=>rfl
theorem Yk{a b:aL}:aE T (.code (.seq a b)::K) fr S=aE T (.code a::.code b::K) fr S:=gQ fun _=>rfl
theorem Yl{n:Nat}{b:aL}:aE T (.code (.block n b)::K) fr S=aE T (.code b::.blk n::K) fr S:=gQ fun _=>rfl
theorem Ym{b:aL}:aE T (.code (.loop b)::K) fr S=aE T (.lp b::K) fr S:=gQ fun _=>rfl
theorem aV{b:aL}:aE T (.lp b::K) fr S=aE T (.code b::.lp b::K) fr S:=gQ fun _=>rfl
theorem Yn{b:aL}:aE T (.code (.scope b)::K) fr S=aE T (.code b::K) fr S:=gQ fun _=>rfl
theorem Yo{l:List (Nat×Nat)}{b:aL}:aE T (.code (.clr l b)::K) fr S=aE T (.code b::.clr l::K) fr S:=gQ fun _=>rfl
theorem Yp{l:List (Nat×Nat)}:aE T (.clr l::K) fr S=aE T K (clrs l fr) S:=gQ fun _=>rfl
theorem Yq{n:Nat}:aE T (.blk n::K) fr S=aE T K fr S:=gQ fun _=>rfl
theorem yl:aE T (.ops []::K) fr S=aE T K fr S:=gQ fun _=>rfl
def br{α:Type}(v:PV)(a b:Option α):Option α:=match v with|.bool true=>a|.bool false=>b|_=>none
theorem Yr{α:Type}{a b:Option α}:br (.bool true) a b=a:=rfl
theorem Ys{α:Type}{a b:Option α}:br (.bool false) a b=b:=rfl
theorem Yt{c:aG}{t e:aL}:aE T (.code (.cond c t e)::K) fr S=br (ev fr c) (aE T (.code t::K) fr S) (aE T (.code e::K) fr S):=by
 have bad:(∀k,ae T (k+1) (.code (.cond c t e)::K) fr S=none)→aE T (.code (.cond c t e)::K) fr S=none:=by
  intro hn;refine oN (mh T _ fr S) fun x=>⟨?_,fun h=>by cases h⟩;rintro⟨k,e⟩
  cases k with
  |zero=>simp[ae]at e
  |succ k=>rw[hn]at e;cases e
 cases h:ev fr c
 case bool b=>cases b<;>exact gQ fun _=>by simp[ae,h]
 all_goals exact bad fun k=>by simp[ae,h]
noncomputable def cB (T:aQ)(fr:Fr)(S:St)(op:bO):Option (PV×St):=aH T (aM T) fr S op
theorem ym{d:Option Nat}{op:bO}{l:List aB}:aE T (.ops (⟨d,op,none⟩::l)::K) fr S=(cB T fr S op).bind fun x=>aE T (.ops l::K) (aS fr d x.1) x.2:=by
 refine oN (mh T _ fr S) fun x=>?_;constructor
 ·rintro⟨k,e⟩
  cases k with
  |zero=>simp[ae]at e
  |succ k=>
   simp only[ae,bq]at e
   cases hp:aH T (bH T k) fr S op with
   |none=>rw[hp]at e;cases e
   |some q=>
    obtain⟨v,S'⟩:=q;rw[hp]at e;rw[cB,mg (qv T k) hp];exact jF.2 ⟨k,e⟩
 ·intro h;rw[cB]at h
  cases hp:aH T (aM T) fr S op with
  |none=>rw[hp]at h;cases h
  |some q=>
   obtain⟨v,S'⟩:=q;rw[hp]at h;obtain⟨k,hk⟩:=Yg hp;obtain⟨j,hj⟩:=jF.1 (show aE T (.ops l::K) (aS fr d v) S'=some x from h);refine⟨max k j+1,?_⟩;simp only[ae,bq,mg (fv T (vl k j)) hk];exact Ph T (vm k j) hj
def fg{α:Type}(v:PV)(b:Bool)(x y:Option α):Option α:=match v with|.bool c=>if c==b then x else y|.tup []=>y|_=>none
theorem jo{d:Option Nat}{op:bO}{l:List aB}{t:Nat}{b:Bool} :
  aE T (.ops (⟨d,op,some (t,b)⟩::l)::K) fr S=fg (fr t) b (aE T (.ops (⟨d,op,none⟩::l)::K) fr S) (aE T (.ops l::K) (aS fr d (.tup [])) S):=by
 have bad:(∀k,ae T (k+1) (.ops (⟨d,op,some (t,b)⟩::l)::K) fr S=none)→aE T (.ops (⟨d,op,some (t,b)⟩::l)::K) fr S=none:=by
  intro hn;refine oN (mh T _ fr S) fun x=>⟨?_,fun h=>by cases h⟩;rintro⟨k,e⟩
  cases k with
  |zero=>simp[ae]at e
  |succ k=>rw[hn]at e;cases e
 cases h:fr t
 case bool c=>
  simp only[fg];by_cases e:c=b
  ·subst e;simp only[beq_self_eq_true,if_true];refine oN (mh T _ fr S) fun x=>?_;rw[jF];constructor
   ·rintro⟨k,q⟩
    cases k with
    |zero=>simp[ae]at q
    |succ k=>exact⟨k+1,by simpa[ae,bq,h]using q⟩
   ·rintro⟨k,q⟩
    cases k with
    |zero=>simp[ae]at q
    |succ k=>exact⟨k+1,by simpa[ae,bq,h]using q⟩
  ·have e':(c==b)=false:=by simpa using e
   simp only[e',bp,if_false];exact gQ fun k=>by simp only[ae,bq,h,e']
 case tup vs=>
  cases vs with
  |nil=>exact gQ fun k=>by simp only[ae,bq,h]
  |cons=>exact bad fun k=>by simp[ae,bq,h]
 all_goals exact bad fun k=>by simp[ae,bq,h]
theorem Pl{f:Nat}{args:List PV}:ck (aM T) .pur f args S=if PV.freeL args then dL S (di T f (PV.frzL args))else none:=by
 simp only[ck,iJ,di];split<;>rfl
end
theorem qw(T:aQ):∀(l:List aB) (k:Nat) (K:List Kt) (fr:Fr) (S:St) (r:Fr×St),ae T k (.ops l::K) fr S=some r →
  ∃fr1 S1 i,ah T (bH T k) l fr S=some (fr1,S1)∧i<k∧ae T i K fr1 S1=some r
 | [],0,_,_,_,_,h=>by simp[ae]at h
 | [],k+1,K,fr,S,r,h=>⟨fr,S,k,rfl,by omega,by simpa only[ae]using h⟩
 |o::l,0,_,_,_,_,h=>by simp[ae]at h
 |o::l,k+1,K,fr,S,r,h=>by
  simp only[ae]at h;simp only[ah]
  cases hw:bq fr o.guard with
  |none=>rw[hw]at h;cases h
  |some b=>
   rw[hw]at h
   cases b with
   |false=>
    obtain⟨fr1,S1,i,h1,h2,h3⟩:=qw T l k K _ _ r h
    exact⟨fr1,S1,i,ii (fv T (by omega)) h1,by omega,h3⟩
   |true=>
    simp only at h ⊢
    cases hp:aH T (bH T k) fr S o.op with
    |none=>rw[hp]at h;cases h
    |some q=>
     obtain⟨v,S'⟩:=q;rw[hp]at h;obtain⟨fr1,S1,i,h1,h2,h3⟩:=qw T l k K _ _ r h;refine⟨fr1,S1,i,?_,by omega,h3⟩;rw[mg (fv T (by omega:k≤k+1)) hp];exact ii (fv T (by omega)) h1
def qx(T:aQ)(k:Nat)(K:List Kt)(r:Fr×St):Ex→Fr→St→Prop
 |.norm,fr1,S1=>∃i,i<k∧ae T i K fr1 S1=some r
 |.exit m,fr1,S1=>∃K' i,ff m K=some K'∧i<k∧ae T i K' fr1 S1=some r
 |.ret,fr1,S1=>r=(fr1,S1)
theorem qx.mono{T:aQ}{k j:Nat}{K:List Kt}{r:Fr×St}{e:Ex}{fr1:Fr}{S1:St}(h:qx T k K r e fr1 S1)(hk:k≤j):qx T j K r e fr1 S1:=by
 cases e with
 |norm=>obtain⟨i,h1,h2⟩:=h;exact⟨i,by omega,h2⟩
 |exit m=>obtain⟨K',i,h0,h1,h2⟩:=h;exact⟨K',i,h0,by omega,h2⟩
 |ret=>exact h
theorem tk(T:aQ):∀(k:Nat) (c:aL) (K:List Kt) (fr:Fr) (S:St) (r:Fr×St),ae T k (.code c::K) fr S=some r →
  ∃e fr1 S1,aY T (bH T k) k c fr S=some (e,fr1,S1)∧qx T k K r e fr1 S1:=by
 intro k
 induction k using Nat.strongRecOn with
 |_ k ih=>
  intro c K fr S r h
  cases k with
  |zero=>simp[ae]at h
  |succ k=>
   have lift:∀{c:aL} {fr:Fr} {S:St} {x:Ex×Fr×St},aY T (bH T k) k c fr S=some x→aY T (bH T (k+1)) k c fr S=some x:=fun h=>jE (fv T (by omega)) (aX _) h;have liftI:∀{i:Nat} {c:aL} {fr:Fr} {S:St} {x:Ex×Fr×St},i≤k→aY T (bH T i) i c fr S=some x→aY T (bH T (k+1)) k c fr S=some x:=fun hi h=>jE (fv T (by omega)) hi h
   cases c with
   |skip=>simp only[ae]at h;exact⟨.norm,fr,S,rfl,k,by omega,h⟩
   |ret=>simp only[ae,aw]at h;exact⟨.ret,fr,S,rfl,h.symm⟩
   |bad=>simp[ae]at h
   |exit n=>
    simp only[ae]at h
    cases hx:ff n K with
    |none=>rw[hx]at h;cases h
    |some K'=>rw[hx]at h;exact⟨.exit n,fr,S,rfl,K',k,hx,by omega,h⟩
   |region l=>
    simp only[ae]at h;obtain⟨fr1,S1,i,h1,h2,h3⟩:=qw T l k K fr S r h;refine⟨.norm,fr1,S1,?_,i,by omega,h3⟩;simp only[aY]
    rw[ii (fv T (by omega:k≤k+1)) h1]
   |seq a b=>
    simp only[ae]at h;obtain⟨e,fr1,S1,h1,h2⟩:=ih k (by omega) a _ fr S r h
    cases e with
    |norm=>
     obtain⟨i,hi,h3⟩:=h2;obtain⟨e2,fr2,S2,h4,h5⟩:=ih i (by omega) b _ fr1 S1 r h3;refine⟨e2,fr2,S2,?_,h5.mono (by omega)⟩;simp only[aY];rw[lift h1]
     exact liftI (by omega) h4
    |exit m=>
     refine⟨.exit m,fr1,S1,?_,?_⟩
     ·simp only[aY];rw[lift h1]
     ·obtain⟨K',i,q1,q2,q3⟩:=h2
      exact⟨K',i,by simpa only[ff]using q1,by omega,q3⟩
    |ret=>exact⟨.ret,fr1,S1,by simp only[aY];rw[lift h1],h2⟩
   |cond x a b=>
    simp only[ae]at h;cases hx:ev fr x<;>rw[hx]at h<;>try (cases h;done)
    rename_i q
    cases q with
    |true=>
     obtain⟨e,fr1,S1,h1,h2⟩:=ih k (by omega) a _ fr S r h
     exact⟨e,fr1,S1,by simp only[aY,hx];exact lift h1,h2.mono (by omega)⟩
    |false=>
     obtain⟨e,fr1,S1,h1,h2⟩:=ih k (by omega) b _ fr S r h
     exact⟨e,fr1,S1,by simp only[aY,hx];exact lift h1,h2.mono (by omega)⟩
   |block n b=>
    simp only[ae]at h;obtain⟨e,fr1,S1,h1,h2⟩:=ih k (by omega) b _ fr S r h
    cases e with
    |norm=>
     obtain⟨i,hi,h3⟩:=h2
     cases i with
     |zero=>simp[ae]at h3
     |succ i=>
      simp only[ae]at h3
      exact⟨.norm,fr1,S1,by simp only[aY];rw[lift h1],i,by omega,h3⟩
    |exit m=>
     obtain⟨K',i,q1,q2,q3⟩:=h2;simp only[ff]at q1;by_cases hm:m=n
     ·rw[if_pos hm]at q1;cases q1;exact⟨.norm,fr1,S1,by simp only[aY];rw[lift h1];simp[hm],i,by omega,q3⟩
     ·rw[if_neg hm]at q1
      exact⟨.exit m,fr1,S1,by simp only[aY];rw[lift h1];simp[hm],K',i,q1,by omega,q3⟩
    |ret=>exact⟨.ret,fr1,S1,by simp only[aY];rw[lift h1],h2⟩
   |rng pre x en post l b=>
    simp only[ae]at h;obtain⟨fr1,S1,i,h1,h2,h3⟩:=qw T pre k _ fr S r h
    cases i with
    |zero=>simp[ae]at h3
    |succ i=>
     simp only[ae]at h3
     cases hr:jD T (bH T i) (fun fr S=>aY T (bH T i) i b fr S) x en post l fr1 S1 with
     |none=>rw[hr]at h3;cases h3
     |some q=>
      obtain⟨fr',S'⟩:=q;rw[hr]at h3;refine⟨.norm,fr',S',?_,i,by omega,h3⟩;simp only[aY];rw[ii (fv T (by omega:k≤k+1)) h1];simp only
      rw[ti (fv T (by omega:i≤k+1)) (fun _ _ _ e=>jE (fv T (by omega:i≤k+1)) (by omega:i≤k) e) hr]
   |scope b=>
    simp only[ae]at h;obtain⟨e,fr1,S1,h1,h2⟩:=ih k (by omega) b _ fr S r h
    exact⟨e,fr1,S1,by simp only[aY];exact lift h1,h2.mono (by omega)⟩
   |clr l b=>
    simp only[ae]at h;obtain⟨e,fr1,S1,h1,h2⟩:=ih k (by omega) b _ fr S r h
    cases e with
    |norm=>
     obtain⟨i,hi,h3⟩:=h2
     cases i with
     |zero=>simp[ae]at h3
     |succ i=>
      simp only[ae]at h3
      exact⟨.norm,clrs l fr1,S1,by simp only[aY];rw[lift h1],i,by omega,h3⟩
    |exit m=>
     refine⟨.exit m,fr1,S1,?_,?_⟩
     ·simp only[aY];rw[lift h1]
     ·obtain⟨K',i,q1,q2,q3⟩:=h2
      exact⟨K',i,by simpa only[ff]using q1,by omega,q3⟩
    |ret=>exact⟨.ret,fr1,S1,by simp only[aY];rw[lift h1],h2⟩
   |loop b=>
    simp only[ae]at h
    cases k with
    |zero=>simp[ae]at h
    |succ k=>
     simp only[ae]at h;obtain⟨e,fr1,S1,h1,h2⟩:=ih k (by omega) b _ fr S r h;have h1':=liftI (i:=k) (by omega) h1
     cases e with
     |norm=>
      obtain⟨i,hi,h3⟩:=h2;obtain⟨e2,fr2,S2,h4,h5⟩:=ih (i+1) (by omega) (.loop b) K fr1 S1 r (by simp only[ae];exact h3);refine⟨e2,fr2,S2,?_,h5.mono (by omega)⟩;simp only[aY]at h1' ⊢;rw[h1']
      exact liftI (by omega) h4
     |exit m=>
      refine⟨.exit m,fr1,S1,?_,?_⟩
      ·simp only[aY];rw[h1']
      ·obtain⟨K',i,q1,q2,q3⟩:=h2
       exact⟨K',i,by simpa only[ff]using q1,by omega,q3⟩
     |ret=>exact⟨.ret,fr1,S1,by simp only[aY];rw[h1'],h2⟩
def Pm{α:Type}(a:α):List α→List (List α)
 | []=>[[a]]
 |b::l=>(a::b::l)::(Pm a l).map (b :: ·)
def Yu{α:Type}:List α→List (List α)
 | []=>[[]]
 |a::l=>(Yu l).flatMap (Pm a)
def Yv(T:aQ)(id:Nat)(cs:List PV)(en:Nat)(post:List aB)(l:List (Nat×Nat))(b:aL):List (PV×PV)→Fr→St→Fr×St→Prop
 | [],fr,S,r=>r=(fr,S)
 |(k,v)::p,fr,S,r=>∃fr1 S1,(∀K,aE T (.ops post::.code b::.clr l::K) (upd fr en (.tup [k,v])) S=aE T K fr1 S1)∧S1.objs[id]?=some cs∧Yv T id cs en post l b p fr1 S1 r
theorem Yw(v:PV):∃u:PV,u≠v:=by
 cases v with
 |nilp=>exact⟨.nils,by simp⟩
 |_=>exact⟨.nilp,by simp⟩
section
variable {T : aQ} {K : List Kt} {fr : Fr} {S : St}
end
theorem Yx{T:aQ}{f:Nat}(c:aU){args:List PV}{S:St}{x:PV×St}(hf:T.fn f=some (.code c))(ha:args.length=c.params)
  (h:((aE T [.code c.body] (bg args) S).bind fun y=>(bh y.1 y.2 c.results).map fun vs=>ak c.raw S y.2 (bu vs))=some x):aM T f args S=some x:=by
 cases hg:aE T [.code c.body] (bg args) S with
 |none=>rw[hg]at h;cases h
 |some y=>
  obtain⟨fr',S1⟩:=y;rw[hg]at h;simp only[vv]at h
  cases hr:bh fr' S1 c.results with
  |none=>rw[hr]at h;cases h
  |some vs=>
   rw[hr]at h;simp only[jW,aw]at h;obtain⟨k,hk⟩:=jF.1 hg;obtain⟨e,fr1,S2,h1,h2⟩:=tk T k c.body [] (bg args) S _ hk;refine yj (k+1) ?_;simp only[bH,hf,ha,if_true,h1]
   cases e with
   |norm=>
    obtain⟨i,hi,h3⟩:=h2
    cases i with
    |zero=>simp[ae]at h3
    |succ i=>
     simp only[ae,aw,bo]at h3;obtain⟨rfl,rfl⟩:=h3
     simp only[hr,h]
   |exit m=>obtain⟨K',i,q1,_⟩:=h2;simp[ff]at q1
   |ret=>
    have:(fr',S1)=(fr1,S2):=h2;cases this;simp only[hr,h]
end Ps
