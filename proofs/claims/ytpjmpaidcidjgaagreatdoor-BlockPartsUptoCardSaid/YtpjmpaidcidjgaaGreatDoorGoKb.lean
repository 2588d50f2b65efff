/- A flat machine over the pure semantics, with one equation a form of code: for walking through a function by rewriting. -/
import Derived.Test.YtpjmpaidcidjgaaGreatDoorDefsKb
namespace Ps
open Go
def gZ(c d:ac):Prop:=∀f args S r,c f args S=some r→d f args S=some r
theorem aB4{c d:ac}(h:gZ c d){keep:Bool}{S:St}{f:Nat}{args:List PV}{r:PV×St}(e:oS keep S (c f args S)=some r):oS keep S (d f args S)=some r:=by
 cases hc:c f args S with
 |none=>rw[hc]at e;cases e
 |some q=>rw[hc]at e;rw[h _ _ _ _ hc];exact e
theorem aB5{c d:ac}(h:gZ c d){f:Nat}{args:List PV}{r:PV}(e:jG c f args=some r):jG d f args=some r:=by
 unfold jG at e ⊢;split at e
 ·rename_i hf;rw[if_pos hf]
  cases hc:c f (PV.frzL args) cS with
  |none=>rw[hc]at e;cases e
  |some q=>rw[hc]at e;rw[h _ _ _ _ hc];exact e
 ·cases e
theorem aB6{c d:ac}(h:gZ c d){f:Nat}{args:List PV}{S:St}{r:PV}(e:my c f args S=some r):my d f args S=some r:=by
 unfold my at e ⊢
 cases hs:cc (ai S.objs 0 eU) args with
 |none=>rw[hs]at e;cases e
 |some as=>
  rw[hs]at e;simp only at e ⊢
  cases hc:c f (PV.frzL as) cS with
  |none=>rw[hc]at e;cases e
  |some q=>rw[hc]at e;rw[h _ _ _ _ hc];exact e
theorem Cf{c d:ac}(h:gZ c d){m:CM}{f:Nat}{args:List PV}{S:St}{r:PV×St}(e:dP c m f args S=some r):dP d m f args S=some r:=by
 cases m with
 |std=>exact h _ _ _ _ e
 |keep=>exact aB4 h e
 |pur=>
  simp only[dP]at e ⊢
  cases hc:jG c f args with
  |none=>rw[hc]at e;cases e
  |some q=>rw[hc]at e;rw[aB5 h hc];exact e
 |snap=>
  simp only[dP]at e ⊢
  cases hc:my c f args S with
  |none=>rw[hc]at e;cases e
  |some q=>rw[hc]at e;rw[aB6 h hc];exact e
theorem tP{T:aV}{c d:ac}(h:gZ c d){fr:Fr}{S:St}{op:bT}{r:PV×St}(e:aG T c fr S op=some r):aG T d fr S op=some r:=by
 cases op
 case call m f xs=>simp only[aG]at e ⊢;exact Cf h e
 case callv m x xs=>
  simp only[aG]at e ⊢;cases hx:ev fr x<;>rw[hx]at e<;>first|exact Cf h e|cases e
 case inv cm m x xs=>
  simp only[aG]at e ⊢;cases hx:ev fr x<;>rw[hx]at e<;>try (cases e;done)
  rename_i t v;simp only at e ⊢
  cases hm:T.meth t m with
  |none=>rw[hm]at e;cases e
  |some f=>rw[hm]at e;exact Cf h e
 case callb b f xs=>
  simp only[aG]at e ⊢;cases hx:fr b<;>rw[hx]at e<;>try (cases e;done)
  simp only at e ⊢
  cases hc:c f (xs.map (ev fr)) S with
  |none=>rw[hc]at e;cases e
  |some q=>rw[hc]at e;rw[h _ _ _ _ hc];exact e
 case load ag n mix x=>cases mix<;>simpa only[aG]using e
 all_goals simpa only[aG]using e
theorem kN{T:aV}{c d:ac}(h:gZ c d):∀{l:List aA} {fr:Fr} {S:St} {r:Fr×St},ae T c l fr S=some r→ae T d l fr S=some r
 | [],_,_,_,e=>e
 |o::l,fr,S,r,e=>by
  simp only[ae]at e ⊢
  cases hw:bu fr o.guard with
  |none=>rw[hw]at e;cases e
  |some b=>
   rw[hw]at e
   cases b with
   |false=>exact kN h e
   |true=>
    simp only at e ⊢
    cases hp:aG T c fr S o.op with
    |none=>rw[hp]at e;cases e
    |some q=>
     obtain⟨v,S'⟩:=q;rw[hp]at e;rw[tP h hp];exact kN h e
theorem SY{it it':PV→PV→Fr→St→Option (Fr×St)}(h:∀k v fr S r,it k v fr S=some r→it' k v fr S=some r):∀{l:List (PV×PV)} {fr:Fr} {S:St} {r:Fr×St},jH it l fr S=some r→jH it' l fr S=some r
 | [],_,_,_,e=>e
 |(k,v)::l,fr,S,r,e=>by
  simp only[jH]at e ⊢
  cases hp:it k v fr S with
  |none=>rw[hp]at e;cases e
  |some q=>rw[hp]at e;rw[h _ _ _ _ _ hp];exact SY h e
theorem aB7{α:Type}{p l:List α}(h:p.Perm l)(hl:l.length≤1):p=l:=by
 match l,hl with
 | [],_=>exact h.eq_nil
 | [x],_=>exact List.perm_singleton.1 h
theorem Cg{it:PV→PV→Fr→St→Option (Fr×St)}{l:List (PV×PV)}{fr:Fr}{S:St}{r:Fr×St}:tC it l fr S=some r↔∀p:List (PV×PV),p.Perm l→jH it p fr S=some r:=by
  unfold tC;constructor
  · intro e p hp
    cases hr:jH it l fr S with
    |none=>rw[hr]at e;cases e
    |some q=>
      rw[hr]at e;simp only at e;split at e
      · rename_i h1;cases e;rw[aB7 hp h1];exact hr
      · split at e
        · rename_i h2;cases e;exact h2 p hp
        · cases e
  · intro h
    rw[h l (uK _)];simp only;split
    · rfl
    · first
      |rfl
      | (split
         · rfl
         · rename_i h2;exact absurd h h2)
theorem aB8{it it':PV→PV→Fr→St→Option (Fr×St)}(h:∀k v fr S r,it k v fr S=some r→it' k v fr S=some r){l:List (PV×PV)}{fr:Fr}{S:St}{r:Fr×St}(e:tC it l fr S=some r):tC it' l fr S=some r:=
 Cg.2 fun p hp=>SY h (Cg.1 e p hp)
theorem aB9{T:aV}{c d:ac}(h:gZ c d){run run':Fr→St→Option (Ex×Fr×St)}(hr:∀fr S r,run fr S=some r→run' fr S=some r){id:Nat}{cs:List PV}{en:Nat}{post:List aA}{l:List (Nat×Nat)}{k v:PV}{fr:Fr}{S:St}{r:Fr×St}
  (e:lj T c run id cs en post l k v fr S=some r):lj T d run' id cs en post l k v fr S=some r:=by
 unfold lj at e ⊢
 cases hp:ae T c post (aP fr (some en) (.tup [k,v])) S with
 |none=>rw[hp]at e;cases e
 |some q=>
  obtain⟨fr2,S2⟩:=q;rw[hp]at e;rw[kN h hp];simp only at e ⊢
  cases hb:run fr2 S2 with
  |none=>rw[hb]at e;cases e
  |some q=>rw[hb]at e;rw[hr _ _ _ hb];exact e
theorem wY{T:aV}{c d:ac}(h:gZ c d){run run':Fr→St→Option (Ex×Fr×St)}(hr:∀fr S r,run fr S=some r→run' fr S=some r){x:aH}{en:Nat}{post:List aA}{l:List (Nat×Nat)}{fr:Fr}{S:St}{r:Fr×St}
  (e:jg T c run x en post l fr S=some r):jg T d run' x en post l fr S=some r:=by
 unfold jg at e ⊢;cases hx:ev fr x<;>rw[hx]at e<;>try (cases e;done)
 rename_i id;simp only at e ⊢
 cases hc:S.objs[id]? with
 |none=>rw[hc]at e;cases e
 |some cs=>
  rw[hc]at e;exact aB8 (fun k v fr S r=>aB9 h hr) e
theorem kO{T:aV}{c d:ac}(h:gZ c d):∀{k j:Nat} {code:aS} {fr:Fr} {S:St} {r:Ex×Fr×St},k≤j→aY T c k code fr S=some r→aY T d j code fr S=some r:=by
 intro k
 induction k with
 |zero=>intro j code fr S r _ e;simp[aY]at e
 |succ k ih=>
  intro j code fr S r hkj e;obtain⟨j,rfl⟩:∃i,j=i+1:=⟨j-1,by omega⟩;have hkj':k≤j:=by omega
  cases code with
  |skip=>exact e
  |ret=>exact e
  |exit n=>exact e
  |bad=>simp[aY]at e
  |region ops=>
   simp only[aY]at e ⊢
   cases hp:ae T c ops fr S with
   |none=>rw[hp]at e;cases e
   |some q=>rw[hp]at e;rw[kN h hp];exact e
  |seq a b=>
   simp only[aY]at e ⊢
   cases hp:aY T c k a fr S with
   |none=>rw[hp]at e;cases e
   |some q=>
    obtain⟨ex,fr1,S1⟩:=q;rw[hp]at e;rw[ih hkj' hp]
    cases ex with
    |norm=>exact ih hkj' e
    |exit n=>exact e
    |ret=>exact e
  |cond x a b=>
   simp only[aY]at e ⊢;cases hx:ev fr x<;>rw[hx]at e<;>try (cases e;done)
   rename_i q
   cases q<;>exact ih hkj' e
  |block n b=>
   simp only[aY]at e ⊢
   cases hp:aY T c k b fr S with
   |none=>rw[hp]at e;cases e
   |some q=>
    rw[hp]at e;rw[ih hkj' hp];exact e
  |scope b=>
   simp only[aY]at e ⊢
   exact ih hkj' e
  |clr l b=>
   simp only[aY]at e ⊢
   cases hp:aY T c k b fr S with
   |none=>rw[hp]at e;cases e
   |some q=>rw[hp]at e;rw[ih hkj' hp];exact e
  |rng pre x en post l b=>
   simp only[aY]at e ⊢
   cases hp:ae T c pre fr S with
   |none=>rw[hp]at e;cases e
   |some q=>
    obtain⟨fr1,S1⟩:=q;rw[hp]at e;rw[kN h hp];simp only at e ⊢
    cases hr:jg T c (fun fr S=>aY T c k b fr S) x en post l fr1 S1 with
    |none=>rw[hr]at e;cases e
    |some q=>
     rw[hr]at e;rw[wY h (fun _ _ _ e=>ih hkj' e) hr]
     exact e
  |loop b=>
   simp only[aY]at e ⊢
   cases hp:aY T c k b fr S with
   |none=>rw[hp]at e;cases e
   |some q=>
    obtain⟨ex,fr1,S1⟩:=q;rw[hp]at e;rw[ih hkj' hp]
    cases ex with
    |norm=>exact ih hkj' e
    |exit n=>exact e
    |ret=>exact e
theorem SZ{T:aV}{c d:ac}(h:gZ c d){k j:Nat}(hkj:k≤j):∀{l:List aS} {fr:Fr} {S:St} {r:Fr×St},kz T c k l fr S=some r→kz T d j l fr S=some r
 | [],_,_,_,e=>e
 |p::l,fr,S,r,e=>by
  simp only[kz]at e ⊢
  cases hp:aY T c k p fr S with
  |none=>rw[hp]at e;cases e
  |some q=>
   rw[hp]at e;rw[kO h hkj hp];obtain⟨x,fr1,S1⟩:=q
   cases x with
   |norm=>exact SZ h hkj e
   |exit m=>cases e
   |ret=>cases e
theorem aCa{c d:ac}(h:gZ c d){cf:Nat}{caps:List PV}{fr:Fr}{S:St}{r:Fr×St}(e:tD c cf caps fr S=some r):tD d cf caps fr S=some r:=by
 unfold tD at e ⊢
 cases hc:c cf caps S with
 |none=>rw[hc]at e;cases e
 |some q=>rw[hc]at e;rw[h _ _ _ _ hc];exact e
theorem aCb{T:aV}{c d:ac}(h:gZ c d){k j:Nat}(hkj:k≤j){b:aX}{caps:List PV}{fr:Fr}{S:St}{r:Fr×St}(e:nB T c k b caps fr S=some r):nB T d j b caps fr S=some r:=by
 unfold nB at e ⊢;split at e
 ·rename_i ha;rw[if_pos ha]
  cases hp:aY T c k b.body (bk caps) S with
  |none=>rw[hp]at e;cases e
  |some q=>rw[hp]at e;rw[kO h hkj hp];exact e
 ·cases e
theorem Sa{T:aV}{c d:ac}(h:gZ c d){k j:Nat}(hkj:k≤j){f:gR}{cf:Nat}{caps:List PV}{fr:Fr}{S:St}{r:Fr×St}(e:lA T c k f cf caps fr S=some r):lA T d j f cf caps fr S=some r:=by
 unfold lA at e ⊢;split at e
 ·split at e
  ·rename_i hcf;rw[if_pos hcf];exact aCa h e
  ·cases e
 ·split at e
  ·rename_i hcf;rw[if_pos hcf];exact aCb h hkj e
  ·cases e
theorem Sb{T:aV}{c d:ac}(h:gZ c d){k j:Nat}(hkj:k≤j){f:gR}{fr:Fr}{S:St}{r:Fr×St}(e:lB T c k f fr S=some r):lB T d j f fr S=some r:=by
 unfold lB at e ⊢
 cases hp:kz T c k f.pre fr S with
 |none=>rw[hp]at e;cases e
 |some q=>
  obtain⟨fr1,S1⟩:=q;rw[hp]at e;rw[SZ h hkj hp];simp only at e ⊢
  cases ho:ae T c [f.clo] fr1 S1 with
  |none=>rw[ho]at e;cases e
  |some q=>
   obtain⟨fr2,S2⟩:=q;rw[ho]at e;rw[kN h ho];simp only at e ⊢;cases ht:fr2 f.t<;>rw[ht]at e<;>try (cases e;done)
   rename_i cf caps;simp only at e ⊢
   cases hr:aY T c k f.rest fr2 S2 with
   |none=>rw[hr]at e;cases e
   |some q=>
    obtain⟨x,fr3,S3⟩:=q;rw[hr]at e;rw[kO h hkj hr]
    cases x with
    |norm=>exact Sa h hkj e
    |exit m=>cases e
    |ret=>exact Sa h hkj e
theorem iC(T:aV):∀{k j:Nat},k≤j→gZ (bV T k) (bV T j):=by
 intro k
 induction k with
 |zero=>intro j _ f args S r e;simp[bV]at e
 |succ k ih=>
  intro j hkj f args S r e;obtain⟨j,rfl⟩:∃i,j=i+1:=⟨j-1,by omega⟩;simp only[bV]at e ⊢
  cases hf:T.fn f with
  |none=>rw[hf]at e;cases e
  |some pf=>
   rw[hf]at e
   cases pf with
   |indexByte=>exact e
   |ext _=>exact e
   |exs _=>exact e
   |codeD c=>
    simp only at e ⊢;split at e
    ·rename_i ha;rw[if_pos ha]
     cases hp:lB T (bV T k) k c (bk args) S with
     |none=>rw[hp]at e;cases e
     |some q=>
      rw[hp]at e;rw[Sb (ih (by omega:k≤j)) (by omega) hp];exact e
    ·cases e
   |code c=>
    simp only at e ⊢;split at e
    ·rename_i ha;rw[if_pos ha]
     cases hp:aY T (bV T k) k c.body (bk args) S with
     |none=>rw[hp]at e;cases e
     |some q=>
      rw[hp]at e;rw[kO (ih (by omega:k≤j)) (by omega) hp];exact e
    ·cases e
inductive Kt where
 |code (c:aS)
 |ops (l:List aA)
 |blk (n:Nat)
 |lp (b:aS)
 |clr (l:List (Nat×Nat))
 |rg (x:aH) (en:Nat) (post:List aA) (l:List (Nat×Nat)) (b:aS)
def gc(n:Nat):List Kt→Option (List Kt)
 | []=>none
 |.blk m::K=>if n=m then some K else gc n K
 |_::K=>gc n K
noncomputable def ad (T:aV):Nat→List Kt→Fr→St→Option (Fr×St)
 |0,_,_,_=>none
 |_+1,[],fr,S=>some (fr,S)
 |k+1,.code .skip::K,fr,S=>ad T k K fr S
 |_+1,.code .ret::_,fr,S=>some (fr,S)
 |k+1,.code (.exit n)::K,fr,S=>match gc n K with|some K'=>ad T k K' fr S|none=>none
 |k+1,.code (.region l)::K,fr,S=>ad T k (.ops l::K) fr S
 |k+1,.code (.seq a b)::K,fr,S=>ad T k (.code a::.code b::K) fr S
 |k+1,.code (.cond c t e)::K,fr,S=>match ev fr c with
  |.bool true=>ad T k (.code t::K) fr S
  |.bool false=>ad T k (.code e::K) fr S
  |_=>none
 |k+1,.code (.block n b)::K,fr,S=>ad T k (.code b::.blk n::K) fr S
 |k+1,.code (.loop b)::K,fr,S=>ad T k (.lp b::K) fr S
 |_+1,.code .bad::_,_,_=>none
 |k+1,.lp b::K,fr,S=>ad T k (.code b::.lp b::K) fr S
 |k+1,.code (.clr l b)::K,fr,S=>ad T k (.code b::.clr l::K) fr S
 |k+1,.code (.scope b)::K,fr,S=>ad T k (.code b::K) fr S
 |k+1,.clr l::K,fr,S=>ad T k K (clrs l fr) S
 |k+1,.code (.rng pre x en post l b)::K,fr,S=>ad T k (.ops pre::.rg x en post l b::K) fr S
 |k+1,.rg x en post l b::K,fr,S=>match jg T (bV T k) (fun fr S=>aY T (bV T k) k b fr S) x en post l fr S with
  |some (fr',S')=>ad T k K fr' S'
  |none=>none
 |k+1,.blk _::K,fr,S=>ad T k K fr S
 |k+1,.ops []::K,fr,S=>ad T k K fr S
 |k+1,.ops (o::l)::K,fr,S=>match bu fr o.guard with
  |none=>none
  |some false=>ad T k (.ops l::K) (aP fr o.dst (.tup [])) S
  |some true=>match aG T (bV T k) fr S o.op with
   |some (v,S')=>ad T k (.ops l::K) (aP fr o.dst v) S'
   |none=>none
theorem Sc(T:aV):∀{k j:Nat} {K:List Kt} {fr:Fr} {S:St} {r:Fr×St},k≤j→ad T k K fr S=some r→ad T j K fr S=some r:=by
 intro k
 induction k with
 |zero=>intro j K fr S r _ e;simp[ad]at e
 |succ k ih=>
  intro j K fr S r hkj e;obtain⟨j,rfl⟩:∃i,j=i+1:=⟨j-1,by omega⟩;have hk:k≤j:=by omega
  match K with
  | []=>exact e
  |.code .skip::K=>simp only[ad]at e ⊢;exact ih hk e
  |.code .ret::_=>exact e
  |.code (.exit n)::K=>
   simp only[ad]at e ⊢
   cases hx:gc n K with
   |none=>rw[hx]at e;cases e
   |some K'=>rw[hx]at e;exact ih hk e
  |.code (.region l)::K=>simp only[ad]at e ⊢;exact ih hk e
  |.code (.seq a b)::K=>simp only[ad]at e ⊢;exact ih hk e
  |.code (.cond c t el)::K=>
   simp only[ad]at e ⊢;cases hx:ev fr c<;>rw[hx]at e<;>try (cases e;done)
   rename_i q
   cases q<;>exact ih hk e
  |.code (.block n b)::K=>simp only[ad]at e ⊢;exact ih hk e
  |.code (.loop b)::K=>simp only[ad]at e ⊢;exact ih hk e
  |.code .bad::K=>simp[ad]at e
  |.lp b::K=>simp only[ad]at e ⊢;exact ih hk e
  |.blk n::K=>simp only[ad]at e ⊢;exact ih hk e
  |.code (.clr l b)::K=>simp only[ad]at e ⊢;exact ih hk e
  |.code (.scope b)::K=>simp only[ad]at e ⊢;exact ih hk e
  |.clr l::K=>simp only[ad]at e ⊢;exact ih hk e
  |.code (.rng pre x en post l b)::K=>simp only[ad]at e ⊢;exact ih hk e
  |.rg x en post l b::K=>
   simp only[ad]at e ⊢
   cases hr:jg T (bV T k) (fun fr S=>aY T (bV T k) k b fr S) x en post l fr S with
   |none=>rw[hr]at e;cases e
   |some q=>
    obtain⟨fr',S'⟩:=q;rw[hr]at e;rw[wY (iC T hk) (fun _ _ _ e=>kO (iC T hk) hk e) hr]
    exact ih hk e
  |.ops []::K=>simp only[ad]at e ⊢;exact ih hk e
  |.ops (o::l)::K=>
   simp only[ad]at e ⊢
   cases hw:bu fr o.guard with
   |none=>rw[hw]at e;cases e
   |some b=>
    rw[hw]at e
    cases b with
    |false=>exact ih hk e
    |true=>
     simp only at e ⊢
     cases hp:aG T (bV T k) fr S o.op with
     |none=>rw[hp]at e;cases e
     |some q=>
      obtain⟨v,S'⟩:=q;rw[hp]at e;rw[tP (iC T hk) hp];exact ih hk e
open Classical in
noncomputable def qU {α:Type}(f:Nat→Option α):Option α:=if h:∃k x,f k=some x then f (Classical.choose h)else none
def wZ{α:Type}(f:Nat→Option α):Prop:=∀k j x,k≤j→f k=some x→f j=some x
theorem Ch{α:Type}{f:Nat→Option α}(hm:wZ f){x:α}:qU f=some x↔∃k,f k=some x:=by
 constructor
 ·intro h;unfold qU at h;split at h
  ·exact⟨_,h⟩
  ·cases h
 ·rintro⟨k,hk⟩;unfold qU;have h:∃k x,f k=some x:=⟨k,x,hk⟩;rw[dif_pos h];obtain⟨y,hy⟩:=Classical.choose_spec h;have h1:=hm _ (max (Classical.choose h) k) y (xy _ _) hy;have h2:=hm _ (max (Classical.choose h) k) x (xz _ _) hk;rw[h1]at h2;cases h2;exact hy
theorem qV{α:Type}{f:Nat→Option α}(hm:wZ f){y:Option α}(h:∀x,(∃k,f k=some x)↔y=some x):qU f=y:=by
 apply Option.ext;intro x;rw[Ch hm];exact h x
noncomputable def aN (T:aV):ac:=fun f args S=>qU fun k=>bV T k f args S
noncomputable def aE (T:aV)(K:List Kt)(fr:Fr)(S:St):Option (Fr×St):=qU fun k=>ad T k K fr S
noncomputable def fc (T:aV)(f:Nat)(args:List PV):Option PV:=wE (aN T f args cS)
theorem aCc(T:aV)(f:Nat)(args:List PV)(S:St):wZ fun k=>bV T k f args S:=fun _ _ _ h e=>iC T h _ _ _ _ e
theorem og(T:aV)(K:List Kt)(fr:Fr)(S:St):wZ fun k=>ad T k K fr S:=fun _ _ _ h e=>Sc T h e
theorem lx{T:aV}{f:Nat}{args:List PV}{S:St}{x:PV×St}:aN T f args S=some x↔∃k,bV T k f args S=some x:=Ch (aCc T f args S)
theorem lF{T:aV}{K:List Kt}{fr:Fr}{S:St}{x:Fr×St}:aE T K fr S=some x↔∃k,ad T k K fr S=some x:=Ch (og T K fr S)
theorem Sd(T:aV)(k:Nat):gZ (bV T k) (aN T):=fun _ _ _ _ e=>lx.2 ⟨k,e⟩
theorem tQ{T:aV}(k:Nat){f:Nat}{args:List PV}{S:St}{x:PV×St}(h:bV T k f args S=some x):aN T f args S=some x:=lx.2 ⟨k,h⟩
theorem aCd{T:aV}{fr:Fr}{S:St}{op:bT}{x:PV×St}(h:aG T (aN T) fr S op=some x):∃k,aG T (bV T k) fr S op=some x:=by
 have key:∀{m:CM} {f:Nat} {args:List PV},dP (aN T) m f args S=some x→∃k,dP (bV T k) m f args S=some x:=by
  intro m f args h
  cases m with
  |std=>exact lx.1 h
  |keep=>
   simp only[dP]at h ⊢
   cases hc:aN T f args S with
   |none=>rw[hc]at h;cases h
   |some q=>
    rw[hc]at h;obtain⟨k,hk⟩:=lx.1 hc
    exact⟨k,by rw[hk];exact h⟩
  |pur=>
   simp only[dP,jG]at h ⊢;split at h
   ·rename_i hf
    cases hc:aN T f (PV.frzL args) cS with
    |none=>rw[hc]at h;cases h
    |some q=>
     rw[hc]at h;obtain⟨k,hk⟩:=lx.1 hc;exact⟨k,by rw[if_pos hf,hk];exact h⟩
   ·cases h
  |snap=>
   simp only[dP,my]at h ⊢
   cases hs:cc (ai S.objs 0 eU) args with
   |none=>rw[hs]at h;cases h
   |some as=>
    rw[hs]at h;simp only at h ⊢
    cases hc:aN T f (PV.frzL as) cS with
    |none=>rw[hc]at h;cases h
    |some q=>
     rw[hc]at h;obtain⟨k,hk⟩:=lx.1 hc;exact⟨k,by rw[hk];exact h⟩
 cases op
 case call m f xs=>simp only[aG]at h ⊢;exact key h
 case callv m x xs=>
  simp only[aG]at h ⊢;cases hx:ev fr x<;>rw[hx]at h<;>first|exact key h|cases h
 case inv cm m x xs=>
  simp only[aG]at h ⊢;cases hx:ev fr x<;>rw[hx]at h<;>try (cases h;done)
  rename_i t v;simp only at h ⊢
  cases hm:T.meth t m with
  |none=>rw[hm]at h;cases h
  |some f=>rw[hm]at h;exact key h
 case callb b f xs=>
  simp only[aG]at h ⊢;cases hx:fr b<;>rw[hx]at h<;>try (cases h;done)
  simp only at h ⊢
  cases hc:aN T f (xs.map (ev fr)) S with
  |none=>rw[hc]at h;cases h
  |some q=>
   rw[hc]at h;obtain⟨k,hk⟩:=lx.1 hc;exact⟨k,by rw[hk];exact h⟩
 case load ag n mix x=>cases mix<;>exact⟨0,by simpa only[aG]using h⟩
 all_goals exact⟨0,by simpa only[aG]using h⟩
section
variable {T : aV} {K : List Kt} {fr : Fr} {S : St}
theorem iS{K1:List Kt}{fr1:Fr}{S1:St}(h:∀k,ad T (k+1) K fr S=ad T k K1 fr1 S1):aE T K fr S=aE T K1 fr1 S1:=by
 refine qV (og T K fr S) fun x=>?_;rw[lF];constructor
 ·rintro⟨k,e⟩
  cases k with
  |zero=>simp[ad]at e
  |succ k=>exact⟨k,by rw[←h];exact e⟩
 ·rintro⟨k,e⟩;exact⟨k+1,by rw[h];exact e⟩
theorem Se(h:∀k,ad T (k+1) K fr S=some (fr,S)):aE T K fr S=some (fr,S):=lF.2 ⟨1,h 0⟩
theorem Ci:aE T [] fr S=some (fr,S):=Se fun _=>rfl
theorem aCe:aE T (.code .skip::K) fr S=aE T K fr S:=iS fun _=>rfl
theorem aCf:aE T (.code .ret::K) fr S=some (fr,S):=Se fun _=>rfl
theorem aCg{n:Nat}:aE T (.code (.exit n)::K) fr S=match gc n K with|some K'=>aE T K' fr S|none=>none:=by
 cases h:gc n K with
 |some K'=>exact iS fun _=>by simp[ad,h]
 |none=>
  refine qV (og T _ fr S) fun x=>⟨?_,fun h=>by cases h⟩;rintro⟨k,e⟩
  cases k with
  |zero=>simp[ad]at e
  |succ k=>simp[ad,h]at e
theorem aCh{l:List aA}:aE T (.code (.region l)::K) fr S=aE T (.ops l::K) fr S:=iS fun _=>rfl
theorem aCi{a b:aS}:aE T (.code (.seq a b)::K) fr S=aE T (.code a::.code b::K) fr S:=iS fun _=>rfl
theorem aCj{n:Nat}{b:aS}:aE T (.code (.block n b)::K) fr S=aE T (.code b::.blk n::K) fr S:=iS fun _=>rfl
theorem aCk{b:aS}:aE T (.code (.loop b)::K) fr S=aE T (.lp b::K) fr S:=iS fun _=>rfl
theorem ax{b:aS}:aE T (.lp b::K) fr S=aE T (.code b::.lp b::K) fr S:=iS fun _=>rfl
theorem aCl{b:aS}:aE T (.code (.scope b)::K) fr S=aE T (.code b::K) fr S:=iS fun _=>rfl
theorem aCm{l:List (Nat×Nat)}{b:aS}:aE T (.code (.clr l b)::K) fr S=aE T (.code b::.clr l::K) fr S:=iS fun _=>rfl
theorem aCn{l:List (Nat×Nat)}:aE T (.clr l::K) fr S=aE T K (clrs l fr) S:=iS fun _=>rfl
theorem aCo{n:Nat}:aE T (.blk n::K) fr S=aE T K fr S:=iS fun _=>rfl
theorem Sf:aE T (.ops []::K) fr S=aE T K fr S:=iS fun _=>rfl
def br{α:Type}(v:PV)(a b:Option α):Option α:=match v with|.bool true=>a|.bool false=>b|_=>none
theorem aCp{α:Type}{a b:Option α}:br (.bool true) a b=a:=rfl
theorem aCq{α:Type}{a b:Option α}:br (.bool false) a b=b:=rfl
theorem aCr{c:aH}{t e:aS}:aE T (.code (.cond c t e)::K) fr S=br (ev fr c) (aE T (.code t::K) fr S) (aE T (.code e::K) fr S):=by
 have bad:(∀k,ad T (k+1) (.code (.cond c t e)::K) fr S=none)→aE T (.code (.cond c t e)::K) fr S=none:=by
  intro hn;refine qV (og T _ fr S) fun x=>⟨?_,fun h=>by cases h⟩;rintro⟨k,e⟩
  cases k with
  |zero=>simp[ad]at e
  |succ k=>rw[hn]at e;cases e
 cases h:ev fr c
 case bool b=>cases b<;>exact iS fun _=>by simp[ad,h]
 all_goals exact bad fun k=>by simp[ad,h]
noncomputable def bf (T:aV)(fr:Fr)(S:St)(op:bT):Option (PV×St):=aG T (aN T) fr S op
theorem Sg{d:Option Nat}{op:bT}{l:List aA}:aE T (.ops (⟨d,op,none⟩::l)::K) fr S=(bf T fr S op).bind fun x=>aE T (.ops l::K) (aP fr d x.1) x.2:=by
 refine qV (og T _ fr S) fun x=>?_;constructor
 ·rintro⟨k,e⟩
  cases k with
  |zero=>simp[ad]at e
  |succ k=>
   simp only[ad,bu]at e
   cases hp:aG T (bV T k) fr S op with
   |none=>rw[hp]at e;cases e
   |some q=>
    obtain⟨v,S'⟩:=q;rw[hp]at e;rw[bf,tP (Sd T k) hp];exact lF.2 ⟨k,e⟩
 ·intro h;rw[bf]at h
  cases hp:aG T (aN T) fr S op with
  |none=>rw[hp]at h;cases h
  |some q=>
   obtain⟨v,S'⟩:=q;rw[hp]at h;obtain⟨k,hk⟩:=aCd hp;obtain⟨j,hj⟩:=lF.1 (show aE T (.ops l::K) (aP fr d v) S'=some x from h);refine⟨max k j+1,?_⟩;simp only[ad,bu,tP (iC T (xy k j)) hk];exact Sc T (xz k j) hj
def fe{α:Type}(v:PV)(b:Bool)(x y:Option α):Option α:=match v with|.bool c=>if c==b then x else y|.tup []=>y|_=>none
theorem ij{d:Option Nat}{op:bT}{l:List aA}{t:Nat}{b:Bool} :
  aE T (.ops (⟨d,op,some (t,b)⟩::l)::K) fr S=fe (fr t) b (aE T (.ops (⟨d,op,none⟩::l)::K) fr S) (aE T (.ops l::K) (aP fr d (.tup [])) S):=by
 have bad:(∀k,ad T (k+1) (.ops (⟨d,op,some (t,b)⟩::l)::K) fr S=none)→aE T (.ops (⟨d,op,some (t,b)⟩::l)::K) fr S=none:=by
  intro hn;refine qV (og T _ fr S) fun x=>⟨?_,fun h=>by cases h⟩;rintro⟨k,e⟩
  cases k with
  |zero=>simp[ad]at e
  |succ k=>rw[hn]at e;cases e
 cases h:fr t
 case bool c=>
  simp only[fe];by_cases e:c=b
  ·subst e;simp only[beq_self_eq_true,if_true];refine qV (og T _ fr S) fun x=>?_;rw[lF];constructor
   ·rintro⟨k,q⟩
    cases k with
    |zero=>simp[ad]at q
    |succ k=>exact⟨k+1,by simpa[ad,bu,h]using q⟩
   ·rintro⟨k,q⟩
    cases k with
    |zero=>simp[ad]at q
    |succ k=>exact⟨k+1,by simpa[ad,bu,h]using q⟩
  ·have e':(c==b)=false:=by simpa using e
   simp only[e',cH,if_false];exact iS fun k=>by simp only[ad,bu,h,e']
 case tup vs=>
  cases vs with
  |nil=>exact iS fun k=>by simp only[ad,bu,h]
  |cons=>exact bad fun k=>by simp[ad,bu,h]
 all_goals exact bad fun k=>by simp[ad,bu,h]
theorem Sh{f:Nat}{args:List PV}:dP (aN T) .pur f args S=if PV.freeL args then dF S (fc T f (PV.frzL args))else none:=by
 simp only[dP,jG,fc];split<;>rfl
end
theorem tR(T:aV):∀(l:List aA) (k:Nat) (K:List Kt) (fr:Fr) (S:St) (r:Fr×St),ad T k (.ops l::K) fr S=some r →
  ∃fr1 S1 i,ae T (bV T k) l fr S=some (fr1,S1)∧i<k∧ad T i K fr1 S1=some r
 | [],0,_,_,_,_,h=>by simp[ad]at h
 | [],k+1,K,fr,S,r,h=>⟨fr,S,k,rfl,by omega,by simpa only[ad]using h⟩
 |o::l,0,_,_,_,_,h=>by simp[ad]at h
 |o::l,k+1,K,fr,S,r,h=>by
  simp only[ad]at h;simp only[ae]
  cases hw:bu fr o.guard with
  |none=>rw[hw]at h;cases h
  |some b=>
   rw[hw]at h
   cases b with
   |false=>
    obtain⟨fr1,S1,i,h1,h2,h3⟩:=tR T l k K _ _ r h
    exact⟨fr1,S1,i,kN (iC T (by omega)) h1,by omega,h3⟩
   |true=>
    simp only at h ⊢
    cases hp:aG T (bV T k) fr S o.op with
    |none=>rw[hp]at h;cases h
    |some q=>
     obtain⟨v,S'⟩:=q;rw[hp]at h;obtain⟨fr1,S1,i,h1,h2,h3⟩:=tR T l k K _ _ r h;refine⟨fr1,S1,i,?_,by omega,h3⟩;rw[tP (iC T (by omega:k≤k+1)) hp];exact kN (iC T (by omega)) h1
def tS(T:aV)(k:Nat)(K:List Kt)(r:Fr×St):Ex→Fr→St→Prop
 |.norm,fr1,S1=>∃i,i<k∧ad T i K fr1 S1=some r
 |.exit m,fr1,S1=>∃K' i,gc m K=some K'∧i<k∧ad T i K' fr1 S1=some r
 |.ret,fr1,S1=>r=(fr1,S1)
theorem tS.mono{T:aV}{k j:Nat}{K:List Kt}{r:Fr×St}{e:Ex}{fr1:Fr}{S1:St}(h:tS T k K r e fr1 S1)(hk:k≤j):tS T j K r e fr1 S1:=by
 cases e with
 |norm=>obtain⟨i,h1,h2⟩:=h;exact⟨i,by omega,h2⟩
 |exit m=>obtain⟨K',i,h0,h1,h2⟩:=h;exact⟨K',i,h0,by omega,h2⟩
 |ret=>exact h
theorem wa(T:aV):∀(k:Nat) (c:aS) (K:List Kt) (fr:Fr) (S:St) (r:Fr×St),ad T k (.code c::K) fr S=some r →
  ∃e fr1 S1,aY T (bV T k) k c fr S=some (e,fr1,S1)∧tS T k K r e fr1 S1:=by
 intro k
 induction k using Nat.strongRecOn with
 |_ k ih=>
  intro c K fr S r h
  cases k with
  |zero=>simp[ad]at h
  |succ k=>
   have lift:∀{c:aS} {fr:Fr} {S:St} {x:Ex×Fr×St},aY T (bV T k) k c fr S=some x→aY T (bV T (k+1)) k c fr S=some x:=fun h=>kO (iC T (by omega)) (aU _) h;have liftI:∀{i:Nat} {c:aS} {fr:Fr} {S:St} {x:Ex×Fr×St},i≤k→aY T (bV T i) i c fr S=some x→aY T (bV T (k+1)) k c fr S=some x:=fun hi h=>kO (iC T (by omega)) hi h
   cases c with
   |skip=>simp only[ad]at h;exact⟨.norm,fr,S,rfl,k,by omega,h⟩
   |ret=>simp only[ad,ap]at h;exact⟨.ret,fr,S,rfl,h.symm⟩
   |bad=>simp[ad]at h
   |exit n=>
    simp only[ad]at h
    cases hx:gc n K with
    |none=>rw[hx]at h;cases h
    |some K'=>rw[hx]at h;exact⟨.exit n,fr,S,rfl,K',k,hx,by omega,h⟩
   |region l=>
    simp only[ad]at h;obtain⟨fr1,S1,i,h1,h2,h3⟩:=tR T l k K fr S r h;refine⟨.norm,fr1,S1,?_,i,by omega,h3⟩;simp only[aY]
    rw[kN (iC T (by omega:k≤k+1)) h1]
   |seq a b=>
    simp only[ad]at h;obtain⟨e,fr1,S1,h1,h2⟩:=ih k (by omega) a _ fr S r h
    cases e with
    |norm=>
     obtain⟨i,hi,h3⟩:=h2;obtain⟨e2,fr2,S2,h4,h5⟩:=ih i (by omega) b _ fr1 S1 r h3;refine⟨e2,fr2,S2,?_,h5.mono (by omega)⟩;simp only[aY];rw[lift h1]
     exact liftI (by omega) h4
    |exit m=>
     refine⟨.exit m,fr1,S1,?_,?_⟩
     ·simp only[aY];rw[lift h1]
     ·obtain⟨K',i,q1,q2,q3⟩:=h2
      exact⟨K',i,by simpa only[gc]using q1,by omega,q3⟩
    |ret=>exact⟨.ret,fr1,S1,by simp only[aY];rw[lift h1],h2⟩
   |cond x a b=>
    simp only[ad]at h;cases hx:ev fr x<;>rw[hx]at h<;>try (cases h;done)
    rename_i q
    cases q with
    |true=>
     obtain⟨e,fr1,S1,h1,h2⟩:=ih k (by omega) a _ fr S r h
     exact⟨e,fr1,S1,by simp only[aY,hx];exact lift h1,h2.mono (by omega)⟩
    |false=>
     obtain⟨e,fr1,S1,h1,h2⟩:=ih k (by omega) b _ fr S r h
     exact⟨e,fr1,S1,by simp only[aY,hx];exact lift h1,h2.mono (by omega)⟩
   |block n b=>
    simp only[ad]at h;obtain⟨e,fr1,S1,h1,h2⟩:=ih k (by omega) b _ fr S r h
    cases e with
    |norm=>
     obtain⟨i,hi,h3⟩:=h2
     cases i with
     |zero=>simp[ad]at h3
     |succ i=>
      simp only[ad]at h3
      exact⟨.norm,fr1,S1,by simp only[aY];rw[lift h1],i,by omega,h3⟩
    |exit m=>
     obtain⟨K',i,q1,q2,q3⟩:=h2;simp only[gc]at q1;by_cases hm:m=n
     ·rw[if_pos hm]at q1;cases q1;exact⟨.norm,fr1,S1,by simp only[aY];rw[lift h1];simp[hm],i,by omega,q3⟩
     ·rw[if_neg hm]at q1
      exact⟨.exit m,fr1,S1,by simp only[aY];rw[lift h1];simp[hm],K',i,q1,by omega,q3⟩
    |ret=>exact⟨.ret,fr1,S1,by simp only[aY];rw[lift h1],h2⟩
   |rng pre x en post l b=>
    simp only[ad]at h;obtain⟨fr1,S1,i,h1,h2,h3⟩:=tR T pre k _ fr S r h
    cases i with
    |zero=>simp[ad]at h3
    |succ i=>
     simp only[ad]at h3
     cases hr:jg T (bV T i) (fun fr S=>aY T (bV T i) i b fr S) x en post l fr1 S1 with
     |none=>rw[hr]at h3;cases h3
     |some q=>
      obtain⟨fr',S'⟩:=q;rw[hr]at h3;refine⟨.norm,fr',S',?_,i,by omega,h3⟩;simp only[aY];rw[kN (iC T (by omega:k≤k+1)) h1];simp only
      rw[wY (iC T (by omega:i≤k+1)) (fun _ _ _ e=>kO (iC T (by omega:i≤k+1)) (by omega:i≤k) e) hr]
   |scope b=>
    simp only[ad]at h;obtain⟨e,fr1,S1,h1,h2⟩:=ih k (by omega) b _ fr S r h
    exact⟨e,fr1,S1,by simp only[aY];exact lift h1,h2.mono (by omega)⟩
   |clr l b=>
    simp only[ad]at h;obtain⟨e,fr1,S1,h1,h2⟩:=ih k (by omega) b _ fr S r h
    cases e with
    |norm=>
     obtain⟨i,hi,h3⟩:=h2
     cases i with
     |zero=>simp[ad]at h3
     |succ i=>
      simp only[ad]at h3
      exact⟨.norm,clrs l fr1,S1,by simp only[aY];rw[lift h1],i,by omega,h3⟩
    |exit m=>
     refine⟨.exit m,fr1,S1,?_,?_⟩
     ·simp only[aY];rw[lift h1]
     ·obtain⟨K',i,q1,q2,q3⟩:=h2
      exact⟨K',i,by simpa only[gc]using q1,by omega,q3⟩
    |ret=>exact⟨.ret,fr1,S1,by simp only[aY];rw[lift h1],h2⟩
   |loop b=>
    simp only[ad]at h
    cases k with
    |zero=>simp[ad]at h
    |succ k=>
     simp only[ad]at h;obtain⟨e,fr1,S1,h1,h2⟩:=ih k (by omega) b _ fr S r h;have h1':=liftI (i:=k) (by omega) h1
     cases e with
     |norm=>
      obtain⟨i,hi,h3⟩:=h2;obtain⟨e2,fr2,S2,h4,h5⟩:=ih (i+1) (by omega) (.loop b) K fr1 S1 r (by simp only[ad];exact h3);refine⟨e2,fr2,S2,?_,h5.mono (by omega)⟩;simp only[aY]at h1' ⊢;rw[h1']
      exact liftI (by omega) h4
     |exit m=>
      refine⟨.exit m,fr1,S1,?_,?_⟩
      ·simp only[aY];rw[h1']
      ·obtain⟨K',i,q1,q2,q3⟩:=h2
       exact⟨K',i,by simpa only[gc]using q1,by omega,q3⟩
     |ret=>exact⟨.ret,fr1,S1,by simp only[aY];rw[h1'],h2⟩
def Si{α:Type}(a:α):List α→List (List α)
 | []=>[[a]]
 |b::l=>(a::b::l)::(Si a l).map (b :: ·)
def aCs{α:Type}:List α→List (List α)
 | []=>[[]]
 |a::l=>(aCs l).flatMap (Si a)
def aCt(T:aV)(id:Nat)(cs:List PV)(en:Nat)(post:List aA)(l:List (Nat×Nat))(b:aS):List (PV×PV)→Fr→St→Fr×St→Prop
 | [],fr,S,r=>r=(fr,S)
 |(k,v)::p,fr,S,r=>∃fr1 S1,(∀K,aE T (.ops post::.code b::.clr l::K) (upd fr en (.tup [k,v])) S=aE T K fr1 S1)∧S1.objs[id]?=some cs∧aCt T id cs en post l b p fr1 S1 r
theorem aCu(v:PV):∃u:PV,u≠v:=by
 cases v with
 |nilp=>exact⟨.nils,by simp⟩
 |_=>exact⟨.nilp,by simp⟩
section
variable {T : aV} {K : List Kt} {fr : Fr} {S : St}
end
theorem aCv{T:aV}{f:Nat}(c:aX){args:List PV}{S:St}{x:PV×St}(hf:T.fn f=some (.code c))(ha:args.length=c.params)
  (h:((aE T [.code c.body] (bk args) S).bind fun y=>(cF y.1 y.2 c.results).map fun vs=>aW c.raw S y.2 (bb vs))=some x):aN T f args S=some x:=by
 cases hg:aE T [.code c.body] (bk args) S with
 |none=>rw[hg]at h;cases h
 |some y=>
  obtain⟨fr',S1⟩:=y;rw[hg]at h;simp only[yD]at h
  cases hr:cF fr' S1 c.results with
  |none=>rw[hr]at h;cases h
  |some vs=>
   rw[hr]at h;simp only[kh,ap]at h;obtain⟨k,hk⟩:=lF.1 hg;obtain⟨e,fr1,S2,h1,h2⟩:=wa T k c.body [] (bk args) S _ hk;refine tQ (k+1) ?_;simp only[bV,hf,ha,if_true,h1]
   cases e with
   |norm=>
    obtain⟨i,hi,h3⟩:=h2
    cases i with
    |zero=>simp[ad]at h3
    |succ i=>
     simp only[ad,ap,bc]at h3;obtain⟨rfl,rfl⟩:=h3
     simp only[hr,h]
   |exit m=>obtain⟨K',i,q1,_⟩:=h2;simp[gc]at q1
   |ret=>
    have:(fr',S1)=(fr1,S2):=h2;cases this;simp only[hr,h]
end Ps
