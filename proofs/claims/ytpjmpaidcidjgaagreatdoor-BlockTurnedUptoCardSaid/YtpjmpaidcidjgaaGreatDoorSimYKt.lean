/- A range over a map, in whatever order its entries come, with whatever rounds; functions. -/
import Derived.Test.YtpjmpaidcidjgaaGreatDoorAbbKt
import Derived.Test.YtpjmpaidcidjgaaGreatDoorSimWKt
set_option linter.defProp false
namespace Ps
set_option linter.unusedVariables false
set_option linter.unusedSimpArgs false
open Go
open Go.RowKit (Below)
inductive Wx where
 |norm
 |exit (n:Nat)
 |ret
 |pan (v:PV)
section
variable {X : Tie} {g : Gh} {w : World} {n : Dn} {fr : Fr} {a : Act} {S : St}
def iZ(X:Tie)(n:Dn)(g:Gh)(w:World)(Post:Wx→Fr→St→Prop):Exit→Act→World→Prop
 |.normal,a',w'=>∃g' fr' S',Le g w g' w'∧SR X g' S' w'∧FR X n g' w' fr' a'∧Post .norm fr' S'
 |.exit m,a',w'=>∃g' fr' S',Le g w g' w'∧SR X g' S' w'∧FR X n g' w' fr' a'∧Post (.exit m) fr' S'
 |.ret,a',w'=>∃g' fr' S',Le g w g' w'∧SR X g' S' w'∧FR X n g' w' fr' a'∧Post .ret fr' S'
 |.panic ch,a',w'=>∃g' fr' S' v u,ch=[{v:=u,recovered:=false}]∧Le g w g' w'∧SR X g' S' w'∧FR X n g' w' fr' a'∧VR X g' w' v u∧Post (.pan v) fr' S'
 |_,_,_=>False
theorem iZ.le{g1:Gh}{w1:World}(h:Le g w g1 w1){Post Post':Wx→Fr→St→Prop}(hp:∀e fr S,Post e fr S→Post' e fr S):∀x a' w',iZ X n g1 w1 Post x a' w'→iZ X n g w Post' x a' w'
 |.normal,_,_,⟨g',fr',S',h1,h2,h3,h4⟩=>⟨g',fr',S',h.trans h1,h2,h3,hp _ _ _ h4⟩
 |.exit _,_,_,⟨g',fr',S',h1,h2,h3,h4⟩=>⟨g',fr',S',h.trans h1,h2,h3,hp _ _ _ h4⟩
 |.ret,_,_,⟨g',fr',S',h1,h2,h3,h4⟩=>⟨g',fr',S',h.trans h1,h2,h3,hp _ _ _ h4⟩
 |.panic _,_,_,⟨g',fr',S',v,u,h0,h1,h2,h3,h4,h5⟩=>⟨g',fr',S',v,u,h0,h.trans h1,h2,h3,h4,hp _ _ _ h5⟩
 |.goto _,_,_,h=>h
 |.outgrown,_,_,h=>h
def qP:List (Nat×Nat)→Nat
 |(a,_)::_=>a
 | []=>0
def yn(X:Tie)(n:Nat)(chk:Code→Bool)(c:Code)(pre:List aA)(x:aG)(en:Nat)(post:List aA)(l:List (Nat×Nat)):Bool:=
 match c with
 |.seq (.region _ ops5 false) (.block m (.loop (.seq (.region _ ops6 false) (.seq (.cond (.tmp ok) .skip (.exit m')) (.block _ (.seq (.region _ ops7 false) B))))))=>
  (match ops5.toList.getLast?,ops6.toList,ops7.toList with
  |some o5,[o6,o6b],o7::r7=>(match o5.dst,o5.op,o6.dst,o6.op,o6b.op,o7.op with
   |some it,.range t xo,some nx,.next (.tmp it1) false,.extract (.tmp nx1) 0,.entry (.tmp it2)=>
    o5.guard.isNone&&o6.guard.isNone&&o6b.guard.isNone&&o7.guard.isNone&&o6b.dst==some ok&&o7.dst==some en&&it1==it&&it2==it&&nx1==nx&&m'==m &&
    dX X n ops5 ops5.toList.dropLast pre&&aK X xo x&&PR X.P t&&dX X n ops7 r7 post&&chk B&&it==qP l&&pre.all (fun p=>!fj p.op)&&post.all (fun p=>!fj p.op) &&
    decide (it<n)&&decide (nx<n)&&decide (ok<n)&&decide (en<n)&&kE it l&&kE nx l&&kE ok l &&
    it != en&&it != nx&&it != ok&&nx != ok
   |_,_,_,_,_,_=>false)
  |_,_,_=>false)
 |_=>false
def cG(X:Tie)(n:Nat):Code→aN→Bool
 |.skip,.skip=>true
 |.ret,.ret=>true
 |.exit m,.exit k=>m==k
 |.region id ops draw,.region ps=>if ps.any (fun p=>fj p.op)then(if draw then ym X n ops ps else dX X n ops ops.toList ps)else bw X n (.region id ops draw) (.region ps)
 |.seq a b,.seq c d=>cG X n a c&&cG X n b d
 |.cond c t e,.cond c' t' e'=>aK X c c'&&cG X n t t'&&cG X n e e'
 |.block m b,.block k c=>m==k&&cG X n b c
 |.loop b,.loop c=>cG X n b c
 |.scope b,.scope c=>cG X n b c
 |.label _,.skip=>true
 |c,.clr _ b=>cG X n c b
 |c,.rng pre x en post l b=>yn X n (fun B=>cG X n B b) c pre x en post l
 |_,_=>false
def W(X:Tie)(pc:aN)(fr:Fr)(S:St)(Post:Wx→Fr→St→Prop):Prop:=
 ∀(n:Dn) (c:Code),cG X n c pc=true→∀(g:Gh) (w:World) (a:Act),SR X g S w→FR X n g w fr a→c.wp X.P (iZ X n g w Post) a w
def W.mono{pc:aN}{Post Post':Wx→Fr→St→Prop}(h:W X pc fr S Post)(hp:∀e fr S,Post e fr S→Post' e fr S):W X pc fr S Post':=
 fun n c hc g w a hS hF=>wp_mono (h n c hc g w a hS hF) (iZ.le (Le.refl g w) hp)
def yo{Post:Wx→Fr→St→Prop}(h:Post .norm fr S):W X .skip fr S Post:=by
 intro n c hc g w a hS hF;cases c<;>simp only[cG]at hc<;>try (cases hc;done)
 ·exact wp_skip ⟨g,fr,S,Le.refl g w,hS,hF,h⟩
 ·exact wp_label ⟨g,fr,S,Le.refl g w,hS,hF,h⟩
def Pm{Post:Wx→Fr→St→Prop}(h:Post .ret fr S):W X .ret fr S Post:=by
 intro n c hc g w a hS hF;cases c<;>simp only[cG]at hc<;>try (cases hc;done)
 exact wp_ret ⟨g,fr,S,Le.refl g w,hS,hF,h⟩
def aAk{m:Nat}{Post:Wx→Fr→St→Prop}(h:Post (.exit m) fr S):W X (.exit m) fr S Post:=by
 intro n c hc g w a hS hF;cases c<;>simp only[cG]at hc<;>try (cases hc;done)
 simp only[beq_iff_eq]at hc;subst hc;exact wp_exit ⟨g,fr,S,Le.refl g w,hS,hF,h⟩
def qQ(hX:bY X){ps:List aA}{Post:Wx→Fr→St→Prop}(h:bz X ps fr S (fun r=>match r with|.norm fr' S'=>Post .norm fr' S'|.pan v S'=>Post (.pan v) (fT ps fr) S')):W X (.region ps) fr S Post:=by
 intro n c hc g w a hS hF;cases c<;>simp only[cG]at hc<;>try (cases hc;done)
 rename_i id ops draw;split at hc
 ·rename_i hw;have q1:∀g' w' a' fr' S',Le g w g' w'→SR X g' S' w'→FR X n g' w' fr' a'→Post .norm fr' S'→iZ X n g w Post .normal a' w':=fun g' w' a' fr' S' h1 h2 h3 h4=>⟨g',fr',S',h1,h2,h3,h4⟩
  have q2:∀g' w' a' v S' u,Le g w g' w'→SR X g' S' w'→FR X n g' w' (fT ps fr) a'→VR X g' w' v u→Post (.pan v) (fT ps fr) S'→iZ X n g w Post (.panic [{v:=u,recovered:=false}]) a' w':=
   fun g' w' a' v S' u h1 h2 h3 h4 h5=>⟨g',_,S',v,u,rfl,h1,h2,h3,h4,h5⟩
  cases draw with
  |true=>
   simp only[if_true]at hc
   exact aAj hX hc hS hF h q1 q2 id
  |false=>
   simp only[bg,if_false]at hc;exact wp_region_list (Pj hX (fp:=fT ps fr) _ _ g w fr S a hc hS hF (Ph _ _) (fun p hp=>Pi hp) h q1 q2)
 ·rename_i hw
  have hnw:∀p∈ps,fj p.op=false:=fun p hp=>by
   cases hq:fj p.op with
   |false=>rfl
   |true=>exact absurd (List.any_eq_true.2 ⟨p,hp,hq⟩) hw
  have h':bz X (ps++[]) fr S (fun r=>match r with|.norm fr' S'=>Post .norm fr' S'|.pan v S'=>Post (.pan v) (fT ps fr) S'):=by rw[dn];exact h
  obtain⟨fr1,S1,h1,h2⟩:=(qO hnw).1 h';refine(lH hX.ty hX.meth (ly hX) hX.mixed n 1).1 _ (.region ps) fr S .norm fr1 S1 g w a _ hc hS hF (by simp only[aU,h1]) (fun g' w' a' k1 k2 k3=>?_);exact⟨g',fr1,S1,k1,k2,k3,h2⟩
def lN{p q:aN}{Post:Wx→Fr→St→Prop}(h:W X p fr S (fun e fr' S'=>match e with|.norm=>W X q fr' S' Post|e=>Post e fr' S')):W X (.seq p q) fr S Post:=by
 intro n c hc g w a hS hF;cases c<;>simp only[cG]at hc<;>try (cases hc;done)
 rename_i c1 c2;rw[aI]at hc;refine wp_seq (wp_mono (h n c1 hc.1 g w a hS hF) fun e a' w' he=>?_)
 cases e with
 |normal=>
  obtain⟨g',fr',S',k1,k2,k3,k4⟩:=he
  exact wp_mono (k4 n c2 hc.2 g' w' a' k2 k3) (iZ.le k1 (fun _ _ _ h=>h))
 |exit m=>exact he
 |ret=>exact he
 |panic ch=>exact he
 |goto l=>exact he
 |outgrown=>exact he
def qR{x:aG}{p q:aN}{b:Bool}{Post:Wx→Fr→St→Prop}(hx:ev fr x=.bool b)(h:W X (if b then p else q) fr S Post):W X (.cond x p q) fr S Post:=by
 intro n c hc g w a hS hF;cases c<;>simp only[cG]at hc<;>try (cases hc;done)
 rename_i co c1 c2;simp only[aI]at hc;obtain⟨⟨h1,h2⟩,h3⟩:=hc;have r:=af hF h1;rw[hx]at r;generalize hu:a.eval co=u at r;cases r
 cases b with
 |true=>exact wp_cond_true hu (h n c1 h2 g w a hS hF)
 |false=>exact wp_cond_false hu (h n c2 h3 g w a hS hF)
def aAl{m:Nat}{p:aN}{Post:Wx→Fr→St→Prop}(h:W X p fr S (fun e fr' S'=>match e with|.exit k=>if k=m then Post .norm fr' S' else Post (.exit k) fr' S'|e=>Post e fr' S')):W X (.block m p) fr S Post:=by
 intro n c hc g w a hS hF;cases c<;>simp only[cG]at hc<;>try (cases hc;done)
 rename_i k c1;simp only[aI,beq_iff_eq]at hc;obtain⟨rfl,hc⟩:=hc;refine wp_block (wp_mono (h n c1 hc g w a hS hF) fun e a' w' he=>?_)
 cases e with
 |exit j=>
  obtain⟨g',fr',S',k1,k2,k3,k4⟩:=he;simp only[Exit.inBlock];split
  ·rename_i e;subst e;simp only[if_true]at k4;exact⟨g',fr',S',k1,k2,k3,k4⟩
  ·rename_i e;simp only[if_neg e]at k4;exact⟨g',fr',S',k1,k2,k3,k4⟩
 |normal=>exact he
 |ret=>exact he
 |panic ch=>exact he
 |goto l=>exact he
 |outgrown=>exact he
def aAm{p:aN}{Post:Wx→Fr→St→Prop}(h:W X p fr S Post):W X (.scope p) fr S Post:=by
 intro n c hc g w a hS hF;cases c<;>simp only[cG]at hc<;>try (cases hc;done)
 refine wp_scope_straight (wp_mono (h n _ hc g w a hS hF) fun e a' w' he=>?_)
 cases e with
 |goto l=>exact he
 |normal=>exact he
 |exit m=>exact he
 |ret=>exact he
 |panic ch=>exact he
 |outgrown=>exact he
def qS{l:List (Nat×Nat)}{p:aN}{Post:Wx→Fr→St→Prop}(h:W X p fr S (fun e fr' S'=>match e with|.norm=>Post .norm (clrs l fr') S'|e=>Post e fr' S')):W X (.clr l p) fr S Post:=by
 intro n c hc g w a hS hF;have hc':cG X n c p=true:=by cases c<;>exact hc
 refine wp_mono (h n c hc' g w a hS hF) fun e a' w' he=>?_
 cases e with
 |normal=>
  obtain⟨g',fr',S',k1,k2,k3,k4⟩:=he
  exact⟨g',_,S',k1,k2,k3.clrs l,k4⟩
 |exit m=>exact he
 |ret=>exact he
 |panic ch=>exact he
 |goto l=>exact he
 |outgrown=>exact he
def ia(P:Program)(c:Code)(Q:Exit→Act→World→Prop)(a:Act)(w:World):Prop:=
 ∀(b:Frame) (k:List Item) (cs:List Frame),∃e a' w',Q e a' w'∧Arrives P (lone (b.at a (.code c::.inLoop c::k)) cs w) b k cs e a' w'
def Pn{P:Program}{c:Code}{Q:Exit→Act→World→Prop}{a:Act}{w:World}(h:ia P c Q a w):(Code.loop c).wp P Q a w:=fun b k cs=>by
 obtain⟨e,a',w',hq,harr⟩:=h b k cs;exact⟨e,a',w',hq,.of_steps (.one step_loop) harr⟩
def yp{P:Program}{c:Code}{Q:Exit→Act→World→Prop}{a:Act}{w:World}(h:c.wp P (Exit.then (ia P c Q) Q) a w):ia P c Q a w:=fun b k cs=>by
 obtain⟨e,a₁,w₁,hq,harr⟩:=h b (.inLoop c::k) cs
 cases e with
 |normal=>
  obtain⟨e₂,a₂,w₂,hq₂,harr₂⟩:=hq b k cs
  exact⟨e₂,a₂,w₂,hq₂,.of_steps (Steps.trans harr (.one step_inLoop)) harr₂⟩
 |exit id=>exact⟨_,a₁,w₁,hq,.pass (x:=.inLoop c) rfl (fun _ _=>.inl (by simp)) harr⟩
 |goto l=>exact⟨_,a₁,w₁,hq,.pass (x:=.inLoop c) rfl (fun _ _=>.inl (by simp)) harr⟩
 |ret=>exact⟨_,a₁,w₁,hq,.pass (x:=.inLoop c) rfl (fun _ _=>.inl (by simp)) harr⟩
 |panic ch=>exact⟨_,a₁,w₁,hq,.pass (x:=.inLoop c) rfl (fun _ _=>.inl (by simp)) harr⟩
 |outgrown=>exact⟨_,a₁,w₁,hq,.pass (x:=.inLoop c) rfl (fun _ _=>.inl (by simp)) harr⟩
def ia.mono{P:Program}{c:Code}{Q Q':Exit→Act→World→Prop}{a:Act}{w:World}(h:ia P c Q a w)(hq:∀e a w,Q e a w→Q' e a w):ia P c Q' a w:=fun b k cs=>by
 obtain⟨e,a',w',h1,h2⟩:=h b k cs;exact⟨e,a',w',hq _ _ _ h1,h2⟩
def WL(X:Tie)(pc:aN)(fr:Fr)(S:St)(Post:Wx→Fr→St→Prop):Prop:=
 ∀(n:Dn) (c:Code),cG X n c pc=true→∀(g:Gh) (w:World) (a:Act),SR X g S w→FR X n g w fr a→ia X.P c (iZ X n g w Post) a w
def aAn{p:aN}{Post:Wx→Fr→St→Prop}(h:WL X p fr S Post):W X (.loop p) fr S Post:=by
 intro n c hc g w a hS hF;cases c<;>simp only[cG]at hc<;>try (cases hc;done)
 exact Pn (h n _ hc g w a hS hF)
def Po{p:aN}{Post:Wx→Fr→St→Prop}(h:W X p fr S (fun e fr' S'=>match e with|.norm=>WL X p fr' S' Post|e=>Post e fr' S')):WL X p fr S Post:=by
 intro n c hc g w a hS hF;refine yp (wp_mono (h n c hc g w a hS hF) fun e a' w' he=>?_)
 cases e with
 |normal=>
  obtain⟨g',fr',S',k1,k2,k3,k4⟩:=he
  exact(k4 n c hc g' w' a' k2 k3).mono (iZ.le k1 (fun _ _ _ h=>h))
 |exit m=>exact he
 |ret=>exact he
 |panic ch=>exact he
 |goto l=>exact he
 |outgrown=>exact he
end
end Ps
set_option linter.defProp false
namespace Ps
set_option linter.unusedVariables false
set_option linter.unusedSimpArgs false
open Go
open Go.RowKit (Below)
section
variable {X : Tie} {g : Gh} {w w' : World} {n : Dn} {fr : Fr} {a : Act} {S : St}
def mj(X:Tie)(it en:Nat)(post:List aA)(l:List (Nat×Nat))(b:aN)(Post:Fr→St→Prop):Nat→List (PV×PV)→Fr→St→Prop
 |0,rem,fr,S=>rem=[]∧Post fr S
 |N+1,rem,fr,S=>∀k v rem' r,rem.Perm ((k,v)::rem')→∃fr2 S2,aY X.T (aS X.T) post (upd (upd fr it (.hnd r)) en (.tup [k,v])) S=some (fr2,S2) ∧
   W X b fr2 S2 (fun e fr3 S3=>e=.norm∧fr3 it=.hnd r∧mj X it en post l b Post N rem' (clrs l fr3) S3)
def eX.mono{g':Gh}(hle:Le g w g' w'){ps:List (PV×PV)}{es:List MapEntry}(hp:eX X g w ps es):eX X g' w' ps es:=by
 induction hp with
 |nil=>exact .nil
 |cons k v ps e es hk hv _ ih=>exact .cons k v ps e es (hk.mono hle) (hv.mono hle) ih
set_option maxHeartbeats 1000000 in
def aAo(hX:bY X){id6 id7 m m1 it nx ok en bm r clock:Nat}{ops6 ops7:Array Oper}{o6 o6b o7:Oper}{r7:List Oper}{B:Code}{post:List aA}{b:aN}{l:List (Nat×Nat)}{es:Array MapEntry}
  (h6:ops6.toList=[o6,o6b])(h7:ops7.toList=o7::r7)(g6:o6.guard=none)(g6b:o6b.guard=none)(g7:o7.guard=none)
  (d6:o6.dst=some nx)(d6b:o6b.dst=some ok)(d7:o7.dst=some en)(p6:o6.op=.next (.tmp it) false)(p6b:o6b.op=.extract (.tmp nx) 0)(p7:o7.op=.entry (.tmp it))
  (hc7:dX X n ops7 r7 post=true)(hcB:cG X n B b=true)(ln:nx<n)(lk:ok<n)(le':en<n)(i1:kE it l=true)(i2:kE nx l=true)(i3:kE ok l=true)
  (ne1:it≠en)(ne2:it≠nx)(ne3:it≠ok)(ne4:nx≠ok)
  {g0:Gh}{w0:World}(hr0:w0.heap.size≤r)(hn:(es.toList.map (·.born)).Nodup)(hst:∀x∈es.toList,x.born<clock){Post:Fr→St→Prop}{Q:Exit→Act→World→Prop}
  (hQ:∀g' w' a' fr' S',Le g0 w0 g' w'→SR X g' S' w'→FR X n g' w' fr' a'→w'.heap[bm]?=some (.map es clock)→Post fr' S'→Q .normal a' w') :
  ∀(N:Nat) (rem:List (PV×PV)) (seen:Array Nat) (g:Gh) (w:World) (a:Act) (fr:Fr) (S:St),rem.length=N→Le g0 w0 g w→SR X g S w→FR X n g w fr a→a.tmps.getD it undef=.pointer (some ⟨r,0,none⟩) →
   w.heap[r]?=some (.mapIter (some bm) clock seen clock)→w.heap[bm]?=some (.map es clock)→g.mfz bm=true→mF g w r→eX X g w rem (leftOf es seen).toList→fr nx=.und→fr ok=.und →
   mj X it en post l b Post N rem fr S →
   ia X.P (.seq (.region id6 ops6 false) (.seq (.cond (.tmp ok) .skip (.exit m)) (.block m1 (.seq (.region id7 ops7 false) B)))) (Exit.inBlock m Q) a w:=by
 have s6:List.range ops6.size=[0,1]:=by
  have:ops6.size=2:=by rw[←ii,h6];rfl
  rw[this];rfl
 have e60:ops6[0]?=some o6:=by rw[←jS,h6];rfl
 have e61:ops6[1]?=some o6b:=by rw[←jS,h6];rfl
 have e70:ops7[0]?=some o7:=by rw[←jS,h7];rfl
 have s7:List.range ops7.size=0::List.range' 1 r7.length:=by
  have:ops7.size=r7.length+1:=by rw[←ii,h7];rfl
  rw[this,ti,lS]
 have want6:∀y,Region.wanted o6 y=true:=fun y=>by simp[Region.wanted,g6]
 have want6b:∀y,Region.wanted o6b y=true:=fun y=>by simp[Region.wanted,g6b]
 have want7:∀y,Region.wanted o7 y=true:=fun y=>by simp[Region.wanted,g7]
 intro N
 induction N with
 |zero=>
  intro rem seen g w a fr S hrem hle hS hF hit hr hbm hmf hpr hp hnx hok hall;obtain⟨rfl,hfin⟩:=hall;have hl0:(leftOf es seen).size=0:=by rw[←ii,←hp.length];rfl
  have hnext:(Instr.next (.pointer (some ⟨r,0,none⟩)) false o6.type).run X.P w=.ok (.tuple #[.bool false]) w:=by
   rcases run_next_at (P:=X.P) w o6.type r bm clock clock seen es clock hr hbm hst (aR _)with h|⟨e,he,_⟩
   ·exact h.2
   ·exfalso;have:(leftOf es seen).toList.length=0:=by rw[ii];exact hl0
    rw[QJ this]at he;cases he
  refine yp (wp_seq (wp_region ?_));rw[s6];simp only[wpOps,e60,e61,want6,want6b,if_true];left;unfold Oper.wp
  have x6:(execOp a.eval o6).run X.P w=.ok (.value (.tuple #[.bool false])) w:=by
   have:a.eval (.tmp it)=.pointer (some ⟨r,0,none⟩):=hit
   cases o6 with
   |mk dst op ty pos after guard=>
    simp only at p6;subst p6;simp only at hnext;simp[execOp,this,hnext]
  rw[x6,Oper.upon_value,d6];have hz:(a.put (some nx) (.tuple #[.bool false])).tmps.getD nx undef=.tuple #[.bool false]:=oF (by rw[hF.size];exact ln);left
  have x6b:(execOp (a.put (some nx) (.tuple #[.bool false])).eval o6b).run X.P w=.ok (.value (.bool false)) w:=by
   cases o6b with
   |mk dst op ty pos after guard=>
    simp only at p6b;subst p6b;exact PU hz rfl _ _ _ _ _
  rw[x6b,Oper.upon_value,d6b]
  have hF1:FR X n g w fr (a.put (some nx) (.tuple #[.bool false])):=by
   have:=hF.put (d:=some nx) (fun t e=>by cases e;exact ln) (.und (X:=X) (g:=g) (w:=w) (.tuple #[.bool false]))
   rwa [tG hnx]at this
  have hF2:FR X n g w fr ((a.put (some nx) (.tuple #[.bool false])).put (some ok) (.bool false)):=by
   have:=hF1.put (d:=some ok) (fun t e=>by cases e;exact lk) (.und (X:=X) (g:=g) (w:=w) (.bool false))
   rwa [tG hok]at this
  refine wp_seq (wp_cond_false (oF (by rw[hF1.size];exact lk)) (wp_exit ?_));show Exit.inBlock m Q (.exit m) _ _;simp only[Exit.inBlock,if_true]
  exact hQ _ _ _ _ _ hle hS hF2 hbm hfin
 |succ N ih=>
  intro rem seen g w a fr S hrem hle hS hF hit hr hbm hmf hpr hp hnx hok hall
  obtain⟨e,he,w1,hw1,hnext⟩:∃e∈(leftOf es seen).toList,∃w1:World,(w1=w∨w1=w.drew)∧(Instr.next (.pointer (some ⟨r,0,none⟩)) false o6.type).run X.P w=.ok (.tuple #[.bool true,e.key,e.val]) (ChangeMaps.setBlock w1 r (.mapIter (some bm) clock (seen.push e.born) clock)):=by
   rcases run_next_at (P:=X.P) w o6.type r bm clock clock seen es clock hr hbm hst (aR _)with h|h
   ·have h0:(leftOf es seen).toList.length=0:=by rw[ii];exact h.1
    have:=hp.length;omega
   ·exact h
  obtain⟨hIt,hr'⟩:=Zn hr hw1 (some bm) clock clock (seen.push e.born);generalize ChangeMaps.setBlock w1 r (.mapIter (some bm) clock (seen.push e.born) clock)=w2 at hnext hIt hr';obtain⟨k,v,rem',hk,hv,hperm,hp'⟩:=hp.take he (Zl seen hn);have hle2:=hle.itAt hIt hr0;have hS2:=hS.itAt hIt;have hF2:=hF.itAt hIt;have hk2:=hk.itAt hIt;have hv2:=hv.itAt hIt;have hp2:eX X g w2 rem' (leftOf es (seen.push e.born)).toList:=by rw[Zk];exact hp'.itAt hIt
  have hbm2:=hIt.map hbm;have hpr2:mF g w2 r:=⟨by rw[hIt.size];exact hpr.lt,hpr.obj,hpr.arr,hpr.mp⟩
  have hrem2:rem'.length=N:=by
   have:=hperm.length_eq;simp only[bE]at this;omega
  obtain⟨fr2,S2,hpost,hW⟩:=hall k v rem' r hperm;refine yp (wp_seq (wp_region ?_));rw[s6];simp only[wpOps,e60,e61,want6,want6b,if_true];left;unfold Oper.wp
  have x6:(execOp a.eval o6).run X.P w=.ok (.value (.tuple #[.bool true,e.key,e.val])) w2:=by
   have:a.eval (.tmp it)=.pointer (some ⟨r,0,none⟩):=hit
   cases o6 with
   |mk dst op ty pos after guard=>
    simp only at p6;subst p6;simp only at hnext;simp[execOp,this,hnext]
  rw[x6,Oper.upon_value,d6];have hz:(a.put (some nx) (.tuple #[.bool true,e.key,e.val])).tmps.getD nx undef=.tuple #[.bool true,e.key,e.val]:=oF (by rw[hF.size];exact ln);left
  have x6b:(execOp (a.put (some nx) (.tuple #[.bool true,e.key,e.val])).eval o6b).run X.P w2=.ok (.value (.bool true)) w2:=by
   cases o6b with
   |mk dst op ty pos after guard=>
    simp only at p6b;subst p6b;exact PU hz rfl _ _ _ _ _
  rw[x6b,Oper.upon_value,d6b]
  have hF3:FR X n g w2 fr (a.put (some nx) (.tuple #[.bool true,e.key,e.val])):=by
   have:=hF2.put (d:=some nx) (fun t e=>by cases e;exact ln) (.und (X:=X) (g:=g) (w:=w2) (.tuple #[.bool true,e.key,e.val]))
   rwa [tG hnx]at this
  have hF4:FR X n g w2 fr ((a.put (some nx) (.tuple #[.bool true,e.key,e.val])).put (some ok) (.bool true)):=by
   have:=hF3.put (d:=some ok) (fun t e=>by cases e;exact lk) (.und (X:=X) (g:=g) (w:=w2) (.bool true))
   rwa [tG hok]at this
  have hit4:((a.put (some nx) (.tuple #[.bool true,e.key,e.val])).put (some ok) (.bool true)).tmps.getD it undef=.pointer (some ⟨r,0,none⟩):=by
   rw[yg ne3,yg ne2];exact hit
  refine wp_seq (wp_cond_true (oF (by rw[hF3.size];exact lk)) (wp_skip ?_));generalize ((a.put (some nx) (.tuple #[.bool true,e.key,e.val])).put (some ok) (.bool true))=a4 at hF4 hit4;show Code.wp X.P _ _ _ _
  have hFr:FR X n g w2 (upd fr it (.hnd r)) a4:=⟨hF4.size,fun t=>by
   rw[cg];split
   ·rename_i et;rw[et,hit4];exact .hnd r
   ·exact hF4.at_ t,hF4.defers⟩
  refine wp_block (wp_seq (wp_region ?_));rw[s7];simp only[wpOps,e70,want7,if_true];left;unfold Oper.wp
  have x7:(execOp a4.eval o7).run X.P w2=.ok (.value (.tuple #[e.key,e.val])) w2:=by
   have:a4.eval (.tmp it)=.pointer (some ⟨r,0,none⟩):=hit4;have hent:=run_entry_at (P:=X.P) w2 r bm clock seen es clock e hr' hbm2 (mem_left he).1 hn
   cases o7 with
   |mk dst op ty pos after guard=>
    simp only at p7;subst p7;simp[execOp,this,hent]
  rw[x7,Oper.upon_value,d7]
  have hF5:=hFr.put (d:=some en) (fun t e=>by cases e;exact le') (VR.tup (X:=X) (g:=g) (w:=w2) [k,v] #[e.key,e.val] rfl (fun j c u h1 h2=>by
   match j with
   |0=>simp at h1 h2;subst h1;subst h2;exact hk2
   |1=>simp at h1 h2;subst h1;subst h2;exact hv2
   |j+2=>simp at h1))
  generalize (a4.put (some en) (.tuple #[e.key,e.val]))=a5 at hF5;have hfits:lD X n ops7 (List.range' 1 r7.length) post:=yJ 1 (fun j=>by rw[←jS,h7,gL 1 j];rfl) hc7
  have hrun:=PS (l2:=[]) (Q:=Exit.then (B.wp X.P (Exit.inBlock m1 (Exit.then (ia X.P (.seq (.region id6 ops6 false) (.seq (.cond (.tmp ok) .skip (.exit m)) (.block m1 (.seq (.region id7 ops7 false) B)))) (Exit.inBlock m Q)) (Exit.inBlock m Q)))) (Exit.inBlock m1 (Exit.then (ia X.P (.seq (.region id6 ops6 false) (.seq (.cond (.tmp ok) .skip (.exit m)) (.block m1 (.seq (.region id7 ops7 false) B)))) (Exit.inBlock m Q)) (Exit.inBlock m Q))))
   hX.ty hX.meth (ly hX) hfits hS2 hF5 hpost (fun g3 w3 a3 hle3 hS3 hF3'=>by
    simp only[wpOps];show Code.wp X.P B _ _ _;refine wp_mono (hW n B hcB g3 w3 a3 hS3 hF3') fun x a' w' hx=>?_
    cases x with
    |normal=>
     obtain⟨g',fr',S',q1,q2,q3,q4,q5,q6⟩:=hx;show ia X.P _ _ _ _;have hle4:=hle3.trans q1;obtain⟨hpr4,hr4⟩:=hpr2.le hle4;obtain⟨hmf4,hbm4⟩:=hle4.mf bm es clock hmf hbm2
     have hit':a'.tmps.getD it undef=.pointer (some ⟨r,0,none⟩):=by
      have rit:=q3.at_ it;rw[q5]at rit;generalize a'.tmps.getD it undef=u at rit;cases rit;rfl
     exact ih rem' (seen.push e.born) g' w' a' (clrs l fr') S' hrem2 (hle2.trans hle4) q2 (q3.clrs l) hit' (by rw[hr4];exact hr') hbm4 hmf4 hpr4 (hp2.mono hle4) (oE nx l fr' i2) (oE ok l fr' i3) q6
    |exit j=>obtain⟨_,_,_,_,_,_,q4,_⟩:=hx;cases q4
    |ret=>obtain⟨_,_,_,_,_,_,q4,_⟩:=hx;cases q4
    |panic ch=>obtain⟨_,_,_,_,_,_,_,_,_,_,q4,_⟩:=hx;cases q4
    |goto j=>exact hx.elim
    |outgrown=>exact hx.elim)
  rw[dn]at hrun;exact hrun
def aAp(hX:bY X){pre:List aA}{x:aG}{en:Nat}{post:List aA}{l:List (Nat×Nat)}{b:aN}{Post:Wx→Fr→St→Prop}{fr1:Fr}{S1:St}{id:Nat}{cs:List PV}
  (hpre:aY X.T (aS X.T) pre fr S=some (fr1,S1))(hx:ev fr1 x=.map id)(hcs:S1.objs[id]?=some cs)(hev:cs.length%2=0)
  (h:mj X (qP l) en post l b (fun fr' S'=>Post .norm fr' (dM id cs S')) (jo cs).length (jo cs) (clrs l fr1) (dM id (cs++[.und]) S1)):W X (.rng pre x en post l b) fr S Post:=by
 intro n c hc g w a hS hF;have hc:yn X n (fun B=>cG X n B b) c pre x en post l=true:=by cases c<;>exact hc
 unfold yn at hc;split at hc
 ·rename_i i5 ops5 m i6 ops6 ok m' m1 i7 ops7 B _;split at hc
  ·rename_i o5 o6 o6b o7 r7 e5 e6 e7;split at hc
   ·rename_i it t xo nx it1 nx1 it2 d5 p5 d6 p6 p6b p7;simp only[aI,oS,beq_iff_eq,bne_iff_ne,ne_eq,decide_eq_true_eq]at hc;obtain⟨⟨⟨⟨⟨⟨⟨⟨⟨⟨⟨⟨⟨⟨⟨⟨⟨⟨⟨⟨⟨⟨⟨⟨⟨⟨⟨⟨g5,g6⟩,g6b⟩,g7⟩,d6b⟩,d7⟩,rfl⟩,rfl⟩,rfl⟩,rfl⟩,hc5⟩,hxo⟩,ht⟩,hc7⟩,hcB⟩,hit0⟩,_⟩,_⟩,li⟩,ln⟩,lk⟩,le'⟩,i1⟩,i2⟩,i3⟩,ne1⟩,ne2⟩,ne3⟩,ne4⟩:=hc;rw[←hit0]at h
    obtain⟨kt,et,hmt⟩:∃kt et,X.P.underlying t=some (.map kt et):=by
     unfold PR at ht;split at ht
     ·rename_i kt et h;exact⟨kt,et,h⟩
     ·cases ht
    have hl5:ops5.toList=ops5.toList.dropLast++[o5]:=by
     obtain⟨ys,hys⟩:=td.1 e5;rw[hys];simp
    have hsz5:ops5.size=ops5.toList.dropLast.length+1:=by
     rw[←ii]
     conv=>lhs;rw[hl5]
     simp
    have hk5:ops5[ops5.toList.dropLast.length]?=some o5:=by
     rw[←jS]
     conv=>lhs;rw[hl5]
     simp
    have want5:∀y,Region.wanted o5 y=true:=fun y=>by simp[Region.wanted,g5]
    refine wp_seq (wp_region ?_);rw[hsz5,List.range_succ,ti];refine PS hX.ty hX.meth (ly hX) (PT 0 (fun j hj=>?_) hc5) hS hF hpre (fun g1 w1 a1 hle1 hS1 hF1=>?_)
    ·rw[cd,←jS]
     conv=>rhs;rw[hl5]
     rw[aw hj]
    ·simp only[wpOps,hk5,want5,if_true];left;unfold Oper.wp;have rx:=af hF1 hxo;rw[hx]at rx;generalize hu:a1.eval xo=u at rx;cases rx;rename_i bm hbm;obtain⟨cs',es,clock,k1,k2,k3,k4⟩:=hS1.maps.ent id bm hbm;rw[hcs]at k1;cases k1;have hnf:=mV hS1 hbm hcs hev
     have x5:(execOp a1.eval o5).run X.P w1=.ok (.value (.pointer (some ⟨w1.heap.size,0,none⟩))) (w1.alloc (.mapIter (some bm) clock #[] clock)):=by
      have hrg:=Zm (X:=X) hmt k2
      cases o5 with
      |mk dst op ty pos after guard=>
       simp only at p5;subst p5;simp[execOp,hu,hrg]
     rw[x5,Oper.upon_value,d5];obtain⟨hleM,hSM⟩:=OZ hS1 hbm hcs hev;have hB:Below w1.heap.size w1 (w1.alloc (.mapIter (some bm) clock #[] clock)):=(Below.refl _ w1).alloc (aR _) _;have hleB:=me hSM hB;have hS2:=tH hSM hB;have hle2:=hleM.trans hleB;have hF2:=hF1.mono hle2;have hF3:=(hF2.clrs l).size;show Code.wp X.P _ _ _ _
     have hFc:FR X n {g1 with mfz:=fun b=>b==bm||g1.mfz b} (w1.alloc (.mapIter (some bm) clock #[] clock)) (clrs l fr1) (a1.put (some it2) (.pointer (some ⟨w1.heap.size,0,none⟩))):=by
      refine⟨by simp[Act.put,hF2.size],fun t=>?_,(hF2.clrs l).defers⟩;by_cases e:t=it2
      ·subst e;rw[oE _ l fr1 i1];exact .und _
      ·rw[yg e];exact(hF2.clrs l).at_ t
     have hbml:=(bc.1 k2).1;refine wp_block (Pn ?_)
     refine aAo hX (es:=es) (clock:=clock) (bm:=bm) (r:=w1.heap.size) (w0:=w1) (g0:={g1 with mfz:=fun b=>b==bm||g1.mfz b}) (Post:=fun fr' S'=>Post .norm fr' (dM id cs S')) e6 e7 g6 g6b g7 d6 d6b d7 p6 p6b p7 hc7 hcB ln lk le' i1 i2 i3 ne1 ne2 ne3 ne4 (aR _) k3.2.1 k3.1
      (fun g' w' a' fr' S' h1 h2 h3 h4 h5=>?_) (jo cs).length (jo cs) #[] _ _ _ _ _ rfl hleB hS2 hFc (oF (by rw[hF2.size];exact li)) (heap_alloc_new w1 _) (by rw[hB.block bm hbml];exact k2) (by simp) ⟨by simp,fun i e=>?_,?_,fun i e=>?_⟩ ?_ (oE _ l fr1 i2) (oE _ l fr1 i3) h
     ·have hid':g'.mp id=some bm:=h1.mp id bm hbm;have hmr:MR X g' w' cs es.toList:=k4.imp fun c u q=>q.mono (hleM.trans h1);refine⟨{g' with mfz:=fun b=>b != bm&&g'.mfz b},fr',dM id cs S',?_,Oa h2 hid' h4 hmr,⟨h3.size,fun t=>(h3.at_ t).mfz _,h3.defers⟩,h5⟩;refine hle1.trans ?_;have hq:=hleM.trans h1
      exact⟨hq.os,hq.tape,hq.output,hq.size,hq.obj,hq.arr,hq.asz,hq.pub,hq.cell,hq.shape,hq.objN,hq.arrN,hq.keep,hq.pubN,hq.mp,hq.mpN,fun b' es' c' m1 m2=>by
       obtain⟨r1,r2⟩:=hq.mf b' es' c' m1 m2;refine⟨?_,r2⟩;have:b'≠bm:=fun e=>by subst e;rw[hnf]at m1;cases m1
       simp[this,r1]⟩
     ·have:=fi hS1 i _ e;omega
     ·exact(hS1.lt _ (aR _)).2
     ·have:=hS1.maps.lt e;omega
     ·have:(leftOf es #[]).toList=es.toList:=by simp[leftOf]
      rw[this];exact eX.of (k4.imp fun c u q=>q.mono hle2)
   ·cases hc
  ·cases hc
 ·cases hc
def eY(X:Tie)(fn:Func)(c:aT):Bool:=
 (match fn.body with|some b=>cG X (c.params+(fn.ntmps-c.params)) b c.body|none=>false)&&fn.name != "runtime.NumGoroutine" && fG X fn.results.toList c.results
def tK(hX:bY X){f:Nat}{fn:Func}{c:aT}(hf:X.P.funcs[X.fnOf f]?=some fn)(hc:eY X fn c=true){args:List PV}(ha:args.length=c.params){R:Rs→Prop}
  (h:W X c.body (bX args) S (fun e fr' S1=>match e with
   |.exit _=>False
   |.pan v=>R (.pan (ac c.raw S S1 v).1 (ac c.raw S S1 v).2)
   |_=>∃vs,bb fr' S1 c.results=some vs∧R (.ret (ac c.raw S S1 (bP vs)).1 (ac c.raw S S1 (bP vs)).2))):ca X f args S R:=by
 intro g w us hS hV;simp only[eY,aI,bne_iff_ne,ne_eq]at hc;obtain⟨⟨hb,hname⟩,hr⟩:=hc;split at hb
 ·rename_i body hbody;refine⟨iW hf hname hbody,calls_of_wp hf hbody ?_⟩;have hF:=oD (fn:=fn) hV ha;refine wp_mono (h ⟨c.params+(fn.ntmps-c.params),[]⟩ body hb g w _ hS hF) fun e a' w' he=>?_
  have fin:∀(g':Gh) (fr':Fr) (S1:St),Le g w g' w'→SR X g' S1 w'→FR X ⟨c.params+(fn.ntmps-c.params),[]⟩ g' w' fr' a' →
    (∃vs,bb fr' S1 c.results=some vs∧R (.ret (ac c.raw S S1 (bP vs)).1 (ac c.raw S S1 (bP vs)).2))→a'.defers=[]∧∃v,(results fn a'.tmps).run X.P w'=.ok v w'∧oI X g w R (.returned v) w':=by
   rintro g' fr' S1 hle hS1 hF1 ⟨vs,k1,k2⟩;obtain⟨u,q1,q2⟩:=oC hS1 hF1 hr k1;exact⟨hF1.defers,u,q1,_,_,k2,ma (raw:=c.raw) hS hle hS1 q2⟩
  cases e with
  |normal=>
   obtain⟨g',fr',S1,h1,h2,h3,h4⟩:=he
   exact fin g' fr' S1 h1 h2 h3 h4
  |ret=>
   obtain⟨g',fr',S1,h1,h2,h3,h4⟩:=he
   exact fin g' fr' S1 h1 h2 h3 h4
  |exit m=>obtain⟨g',fr',S1,h1,h2,h3,h4⟩:=he;exact h4.elim
  |panic ch=>
   obtain⟨g',fr',S1,v,u,rfl,h1,h2,h3,h4,h5⟩:=he
   exact⟨h3.defers,_,_,u,rfl,h5,ma (raw:=c.raw) hS h1 h2 h4⟩
  |goto j=>exact he.elim
  |outgrown=>exact he.elim
 ·cases hb
def aAq(hX:bY X){f:Nat}{args:List PV}(h:ca X f args bF (fun r=>∃S',r=.ret (.bool true) S')){p:Nat→Nat}{w:World}(hp:∀b,w.heap.size≤b→p b=0)(hg:hZ X (bN p) w){us:Array Value}(hV:bD X (bN p) w args us) :
  Calls X.P (X.fnOf f) us w fun e w'=>e=.returned (.bool true)∧nT w w':=by
 refine((h (bN p) w us (pq hp hg) hV).2).mono fun e w' he=>?_
 cases e with
 |returned u=>
  obtain⟨v,S',⟨S1,h1⟩,g',hle,_,hr⟩:=he;cases h1;cases hr
  exact⟨rfl,Mq hle⟩
 |panicked ch=>obtain⟨v,S',u,_,⟨S1,h1⟩,_⟩:=he;cases h1
 |outgrown=>exact he.elim
end
end Ps
