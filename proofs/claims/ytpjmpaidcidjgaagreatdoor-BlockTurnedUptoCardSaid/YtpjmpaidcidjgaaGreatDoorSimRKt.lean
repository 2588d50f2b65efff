/- A deferred closure that asks whether there is a panic: there is none. -/
import Derived.Test.YtpjmpaidcidjgaaGreatDoorAbbKt
import Derived.Test.YtpjmpaidcidjgaaGreatDoorSimNrKt
import Derived.Test.YtpjmpaidcidjgaaGreatDoorSimPrKt
import Derived.Test.YtpjmpaidcidjgaaGreatDoorSimAsKt
import Derived.LoopN
import Derived.Scope
import Derived.Recover
set_option linter.defProp false
namespace Ps
open Go
def bw(X:Tie)(n:Nat):Code→aN→Bool
 |_,.bad=>true
 |.skip,.skip=>true
 |.ret,.ret=>true
 |.exit m,.exit k=>m==k
 |.region _ ops draw,.region ps=>(dX X n ops ops.toList ps&&(!draw||qD ops.toList ps))||(!draw&&iX X n ops ops.toList ps)||(draw&&(yX X n ops ps||yZ X n ops ps||yP X n ops ps||xj X n ops ps))
 |.seq a b,.seq c d=>bw X n a c&&bw X n b d
 |.cond c t e,.cond c' t' e'=>aK X c c'&&bw X n t t'&&bw X n e e'
 |.block m b,.block k c=>m==k&&bw X n b c
 |.loop b,.loop c=>bw X n b c
 |.scope b,.scope c=>bw X n b c
 |.label _,.skip=>true
 |c,.clr _ b=>bw X n c b
 |c,.rng pre x en post l (.region b)=>yf X n c pre x en post l b
 |_,_=>false
def nz:Ex→Exit
 |.norm=>.normal
 |.exit n=>.exit n
 |.ret=>.ret
section
variable {X : Tie}
def lH{call:aX}(hty:dv X)(hM:eC X)(hC:cW X call)(hmix:X.P.follows .mixedOrders=true)(n:Dn):∀k:Nat,
  (∀(c:Code) (pc:aN) (fr:Fr) (S:St) (e:Ex) (fr':Fr) (S':St) (g:Gh) (w:World) (a:Act) (Q:Exit→Act→World→Prop),
   bw X n c pc=true→SR X g S w→FR X n g w fr a→aU X.T call k pc fr S=some (e,fr',S') →
   (∀g' w' a',Le g w g' w'→SR X g' S' w'→FR X n g' w' fr' a'→Q (nz e) a' w')→c.wp X.P Q a w) ∧
  (∀(c:Code) (pc:aN) (fr:Fr) (S:St) (e:Ex) (fr':Fr) (S':St) (g:Gh) (w:World) (a:Act) (Q:Exit→Act→World→Prop),
   bw X n c pc=true→SR X g S w→FR X n g w fr a→aU X.T call k (.loop pc) fr S=some (e,fr',S') →
   (∀g' w' a',Le g w g' w'→SR X g' S' w'→FR X n g' w' fr' a'→Q (nz e) a' w')→Code.rounds X.P c Q k a w):=by
 intro k
 induction k with
 |zero=>exact⟨fun c pc fr S e fr' S' g w a Q _ _ _ h=>by simp[aU]at h,fun c pc fr S e fr' S' g w a Q _ _ _ h=>by simp[aU]at h⟩
 |succ k ih=>
  obtain⟨ih1,ih2⟩:=ih
  have rounds:∀(c:Code) (pc:aN) (fr:Fr) (S:St) (e:Ex) (fr':Fr) (S':St) (g:Gh) (w:World) (a:Act) (Q:Exit→Act→World→Prop),
    bw X n c pc=true→SR X g S w→FR X n g w fr a→aU X.T call (k+1) (.loop pc) fr S=some (e,fr',S') →
    (∀g' w' a',Le g w g' w'→SR X g' S' w'→FR X n g' w' fr' a'→Q (nz e) a' w')→Code.rounds X.P c Q (k+1) a w:=by
   intro c pc fr S e fr' S' g w a Q hc hS hF h hQ;rw[rounds_succ];simp only[aU]at h
   cases hb:aU X.T call k pc fr S with
   |none=>rw[hb]at h;cases h
   |some r=>
    obtain⟨e1,fr1,S1⟩:=r;rw[hb]at h;refine ih1 c pc fr S e1 fr1 S1 g w a _ hc hS hF hb (fun g1 w1 a1 hle1 hS1 hF1=>?_)
    cases e1 with
    |norm=>
     simp only at h
     exact ih2 c pc fr1 S1 e fr' S' g1 w1 a1 Q hc hS1 hF1 h (fun g2 w2 a2 hle2 hS2 hF2=>hQ g2 w2 a2 (hle1.trans hle2) hS2 hF2)
    |exit m=>simp only[ae,ba]at h;obtain⟨rfl,rfl,rfl⟩:=h;exact hQ g1 w1 a1 hle1 hS1 hF1
    |ret=>simp only[ae,ba]at h;obtain⟨rfl,rfl,rfl⟩:=h;exact hQ g1 w1 a1 hle1 hS1 hF1
  refine⟨?_,rounds⟩;intro c pc fr S e fr' S' g w a Q hc hS hF h hQ
  cases pc with
  |bad=>simp[aU]at h
  |skip=>
   cases c<;>simp only[bw]at hc<;>try (cases hc;done)
   all_goals simp only[aU,ae,ba]at h
   all_goals obtain⟨rfl,rfl,rfl⟩:=h
   all_goals first
    |exact wp_skip (hQ g w a (Le.refl g w) hS hF)
    |exact wp_label (hQ g w a (Le.refl g w) hS hF)
  |ret=>
   cases c<;>simp only[bw]at hc<;>try (cases hc;done)
   simp only[aU,ae,ba]at h;obtain⟨rfl,rfl,rfl⟩:=h
   exact wp_ret (hQ g w a (Le.refl g w) hS hF)
  |exit m=>
   cases c<;>simp only[bw]at hc<;>try (cases hc;done)
   simp only[beq_iff_eq]at hc;subst hc;simp only[aU,ae,ba]at h;obtain⟨rfl,rfl,rfl⟩:=h
   exact wp_exit (hQ g w a (Le.refl g w) hS hF)
  |region ps=>
   cases c<;>simp only[bw]at hc<;>try (cases hc;done)
   rename_i id ops draw;simp only[aI,gJ,fV]at hc;simp only[aU]at h
   cases hp:aY X.T call ps fr S with
   |none=>rw[hp]at h;cases h
   |some r=>
    obtain⟨fr1,S1⟩:=r;rw[hp]at h;simp only[ae,ba]at h;obtain⟨rfl,rfl,rfl⟩:=h;rcases hc with(hc|⟨rfl,hc⟩)|⟨rfl,hc⟩
    rotate_left
    ·refine wp_region ?_;rw[ti,←ii];exact Zi hty hM hC (ye _ 0 (aR _) (fun j _=>by simp) hc) hS hF hp hQ
    ·rcases hc with((hc|hc)|hc)|hc
     ·exact ZJ hty hM hC hmix hc hS hF hp hQ id
     ·exact ZU hty hM hC hmix hc hS hF hp hQ id
     ·exact Ym hty hM hC hmix hc hS hF hp hQ id
     ·exact XO hty hM hC hmix hc hS hF hp hQ id
    cases draw with
    |false=>
     refine wp_region ?_;rw[ti,←ii]
     exact YT hty hM hC (yJ 0 (by simp) hc.1) hS hF hp hQ
    |true=>
     have hd:qD ops.toList ps=true:=by simpa using hc.2
     exact ZH hty hM hC hmix hc.1 hd hS hF hp hQ id
  |seq c1 c2=>
   cases c<;>simp only[bw]at hc<;>try (cases hc;done)
   simp only[aI]at hc;simp only[aU]at h;refine wp_seq ?_
   cases hb:aU X.T call k c1 fr S with
   |none=>rw[hb]at h;cases h
   |some r=>
    obtain⟨e1,fr1,S1⟩:=r;rw[hb]at h;refine ih1 _ c1 fr S e1 fr1 S1 g w a _ hc.1 hS hF hb (fun g1 w1 a1 hle1 hS1 hF1=>?_)
    cases e1 with
    |norm=>
     simp only at h
     exact ih1 _ c2 fr1 S1 e fr' S' g1 w1 a1 Q hc.2 hS1 hF1 h (fun g2 w2 a2 hle2 hS2 hF2=>hQ g2 w2 a2 (hle1.trans hle2) hS2 hF2)
    |exit m=>simp only[ae,ba]at h;obtain⟨rfl,rfl,rfl⟩:=h;exact hQ g1 w1 a1 hle1 hS1 hF1
    |ret=>simp only[ae,ba]at h;obtain⟨rfl,rfl,rfl⟩:=h;exact hQ g1 w1 a1 hle1 hS1 hF1
  |cond c0 c1 c2=>
   cases c<;>simp only[bw]at hc<;>try (cases hc;done)
   rename_i x t el;simp only[aI]at hc;obtain⟨⟨h0,h1⟩,h2⟩:=hc;simp only[aU]at h;have r:=af hF h0;split at h
   ·rename_i he;rw[he]at r;generalize hu:a.eval x=u at r;cases r;exact wp_cond_true hu (ih1 _ c1 fr S e fr' S' g w a Q h1 hS hF h hQ)
   ·rename_i he;rw[he]at r;generalize hu:a.eval x=u at r;cases r;exact wp_cond_false hu (ih1 _ c2 fr S e fr' S' g w a Q h2 hS hF h hQ)
   ·cases h
  |block m c1=>
   cases c<;>simp only[bw]at hc<;>try (cases hc;done)
   simp only[aI,beq_iff_eq]at hc;obtain⟨rfl,h1⟩:=hc;simp only[aU]at h;refine wp_block ?_
   cases hb:aU X.T call k c1 fr S with
   |none=>rw[hb]at h;cases h
   |some r=>
    obtain⟨e1,fr1,S1⟩:=r;rw[hb]at h;refine ih1 _ c1 fr S e1 fr1 S1 g w a _ h1 hS hF hb (fun g1 w1 a1 hle1 hS1 hF1=>?_)
    cases e1 with
    |norm=>simp only[ae,ba]at h;obtain⟨rfl,rfl,rfl⟩:=h;exact hQ g1 w1 a1 hle1 hS1 hF1
    |exit q=>
     simp only at h;split at h
     ·rename_i hq;simp only[ae,ba]at h;obtain⟨rfl,rfl,rfl⟩:=h;subst hq;simp only[nz,Exit.inBlock,if_true];exact hQ g1 w1 a1 hle1 hS1 hF1
     ·rename_i hq;simp only[ae,ba]at h;obtain⟨rfl,rfl,rfl⟩:=h;simp only[nz,Exit.inBlock,if_neg hq]
      exact hQ g1 w1 a1 hle1 hS1 hF1
    |ret=>simp only[ae,ba]at h;obtain⟨rfl,rfl,rfl⟩:=h;exact hQ g1 w1 a1 hle1 hS1 hF1
  |scope c1=>
   cases c<;>simp only[bw]at hc<;>try (cases hc;done)
   simp only[aU]at h;refine wp_scope_straight (ih1 _ c1 fr S e fr' S' g w a _ hc hS hF h (fun g1 w1 a1 hle1 hS1 hF1=>?_))
   cases e<;>exact hQ g1 w1 a1 hle1 hS1 hF1
  |clr l c1=>
   have hc':bw X n c c1=true:=by
    cases c<;>simpa only[bw]using hc
   simp only[aU]at h
   cases hb:aU X.T call k c1 fr S with
   |none=>rw[hb]at h;cases h
   |some r=>
    obtain⟨e1,fr1,S1⟩:=r;rw[hb]at h;refine ih1 _ c1 fr S e1 fr1 S1 g w a _ hc' hS hF hb (fun g1 w1 a1 hle1 hS1 hF1=>?_)
    cases e1 with
    |norm=>simp only[ae,ba]at h;obtain⟨rfl,rfl,rfl⟩:=h;exact hQ g1 w1 a1 hle1 hS1 (hF1.clrs l)
    |exit m=>simp only[ae,ba]at h;obtain⟨rfl,rfl,rfl⟩:=h;exact hQ g1 w1 a1 hle1 hS1 hF1
    |ret=>simp only[ae,ba]at h;obtain⟨rfl,rfl,rfl⟩:=h;exact hQ g1 w1 a1 hle1 hS1 hF1
  |rng pre x en post l b=>
   have hb:∃bs,b=.region bs∧yf X n c pre x en post l bs=true:=by
    cases b<;>first
     |(cases c<;>simp only[bw]at hc<;>cases hc;done)
     |exact⟨_,rfl,by cases c<;>simpa only[bw]using hc⟩
   obtain⟨bs,rfl,hc⟩:=hb;simp only[aU]at h
   cases hp:aY X.T call pre fr S with
   |none=>rw[hp]at h;cases h
   |some q=>
    obtain⟨fr1,S1⟩:=q;rw[hp]at h;simp only at h
    cases hr:iP X.T call (fun fr S=>aU X.T call k (.region bs) fr S) x en post l fr1 S1 with
    |none=>rw[hr]at h;cases h
    |some q=>
     obtain⟨fr2,S2⟩:=q;rw[hr]at h;simp only[ae,ba]at h;obtain⟨rfl,rfl,rfl⟩:=h
     have hr1:iP X.T call (fun fr S=>match aY X.T call bs fr S with|some (fr',S')=>some (.norm,fr',S')|none=>none) x en post l fr1 S1=some (fr2,S2):=
      rn (fun _ _ _ _ e=>e) (fun fr S r e=>by
       cases k with
       |zero=>simp[aU]at e
       |succ k=>
        simp only[aU]at e ⊢
        cases hq:aY X.T call bs fr S with
        |none=>rw[hq]at e;cases e
        |some q=>simp only[hq]at e ⊢;exact e) hr
     exact Zo hty hM hC hc (fun _ _=>rfl) hS hF hp hr1 hQ
  |loop c1=>
   cases c<;>simp only[bw]at hc<;>try (cases hc;done)
   exact wp_loop_rounds (k+1) (rounds _ c1 fr S e fr' S' g w a Q hc hS hF h hQ)
variable {g : Gh} {w : World}
def VR.restrict{gA g1 g2:Gh}{wA w1:World}
  (h1:∀id b bA,g1.obj id=some b→gA.obj id=some bA→g2.obj id=some b)(h2:∀b id base szA,g1.arr b=some (id,base)→gA.asz id=some szA→g2.arr b=some (id,base))
  (h3:∀id sz szA,g1.asz id=some sz→gA.asz id=some szA→g2.asz id=some sz)
  (h4:∀b,g1.pub b≤g2.pub b)(h5:∀id b bA,g1.mp id=some b→gA.mp id=some bA→g2.mp id=some b){c:PV}{u:Value}(r:VR X g1 w1 c u):∀uA,VR X gA wA c uA→VR X g2 w1 c u:=by
 induction r with
 |und u=>intro _ _;exact .und u
 |int k n=>intro _ _;exact .int k n
 |bool b=>intro _ _;exact .bool b
 |str s=>intro _ _;exact .str s
 |nilp=>intro _ _;exact .nilp
 |nils=>intro _ _;exact .nils
 |nili=>intro _ _;exact .nili
 |nilf=>intro _ _;exact .nilf
 |ptr id off b e=>
  intro uA rA
  cases rA with
  |ptr _ _ b' e'=>exact .ptr id off b (h1 _ _ _ e e')
 |ref cs b o us hpub hc _ ih=>
  intro uA rA
  cases rA with
  |ref _ b' o' us' _ _ hv'=>exact .ref cs b o us (Nat.le_trans hpub (h4 b)) hc (fun j c hj=>ih j c hj _ (hv' j c hj))
 |slz a=>intro _ _;exact .slz a
 |sl tip es sp b o cap sz us hcap hpos hsz hpub hc _ hlink hone ih=>
  intro uA rA
  cases rA with
  |slz aa=>
   have h0:o≤g2.pub b:=by have:=h4 b;simp at hpub;omega
   exact .sl none [] [] b o cap sz us hcap hpos (by simp) (by simpa using h0) hc (by simp) (fun id e ht hs=>by cases ht) (by simp)
  |sl _ _ _ b' o' cap' sz' us' _ _ _ _ _ hv' hlink' _=>
   refine .sl tip es sp b o cap sz us hcap hpos hsz (Nat.le_trans hpub (h4 b)) hc (fun j c hj=>ih j c hj _ (hv' j c hj)) (fun id e ht hs=>?_) hone;obtain⟨k1,k2,k3⟩:=hlink id e ht hs;obtain⟨_,k2',_⟩:=hlink' id e ht hs;refine⟨k1,h3 _ _ _ k2 k2',?_⟩;rcases k3 with k3|⟨base,k4,k5,k6⟩
   ·exact .inl k3
   ·exact .inr ⟨base,h2 _ _ _ _ k4 k2',k5,k6⟩
 |emp a=>intro _ _;exact .emp a
 |osl id off len sz cap b e hl hr=>
  intro uA rA
  cases rA with
  |osl _ _ _ _ cap' b' e' _ _=>exact .osl id off len sz cap b (h1 _ _ _ e e') hl hr
 |iface t v u _ ih=>
  intro uA rA
  cases rA with
  |iface _ _ u' h'=>exact .iface t v u (ih _ h')
 |agg cs us hl _ ih=>
  intro uA rA
  cases rA with
  |agg _ us' hl' hv'=>exact .agg cs us hl (fun j c u e1 e2=>ih j c u e1 e2 _ (hv' j c _ e1 (dy (by rw[←hl'];exact(aL.1 e1).1))))
 |tup cs us hl _ ih=>
  intro uA rA
  cases rA with
  |tup _ us' hl' hv'=>exact .tup cs us hl (fun j c u e1 e2=>ih j c u e1 e2 _ (hv' j c _ e1 (dy (by rw[←hl'];exact(aL.1 e1).1))))
 |fn f cs us hl _ ih=>
  intro uA rA
  cases rA with
  |fn _ _ us' hl' hv'=>exact .fn f cs us hl (fun j c u e1 e2=>ih j c u e1 e2 _ (hv' j c _ e1 (dy (by rw[←hl'];exact(aL.1 e1).1))))
 |nilm=>intro _ _;exact .nilm
 |hnd b=>intro _ _;exact .hnd b
 |map id b e=>
  intro uA rA
  cases rA with
  |map _ b' e'=>exact .map id b (h5 _ _ _ e e')
 |bfn f cs us hl _ ih=>
  intro uA rA
  cases rA with
  |bfn _ _ us' hl' hv'=>exact .bfn f cs us hl (fun j c u e1 e2=>ih j c u e1 e2 _ (hv' j c _ e1 (dy (by rw[←hl'];exact(aL.1 e1).1))))
theorem ya:∀{l:List (List PV)},kd l=true→∀v∈l,PV.freeL v=true
 | [],_,v,hv=>by simp at hv
 |a::l,h,v,hv=>by
  simp only[kd,aI]at h;rcases cY.1 hv with rfl|hv
  ·exact h.1
  ·exact ya h.2 v hv
def ZV{gA g1 g2:Gh}{wA w1:World}(f:∀(c:PV)(u uA:Value),VR X g1 w1 c u→VR X gA wA c uA→VR X g2 w1 c u):∀{cs:List PV} {es esA:List MapEntry},MR X g1 w1 cs es→MR X gA wA cs esA→MR X g2 w1 cs es:=by
 intro cs es esA h
 induction h generalizing esA with
 |nil=>intro _;exact .nil
 |mark=>intro _;exact .mark
 |cons k v cs e es hk hkk hv _ ih=>
  intro hA
  cases hA with
  |cons _ _ _ e' es' hk' _ hv' h'=>exact .cons k v cs e es (f _ _ _ hk hk') hkk (f _ _ _ hv hv') (ih h')
def ZW{g1 g2:Gh}{w1:World}(f:∀(c:PV)(u:Value),c.free=true→VR X g1 w1 c u→VR X g2 w1 c u){cs:List PV}{es:List MapEntry}(h:MR X g1 w1 cs es):PV.freeL cs=true→MR X g2 w1 cs es:=by
 induction h with
 |nil=>intro _;exact .nil
 |mark=>intro _;exact .mark
 |cons k v cs e es hk hkk hv _ ih=>
  intro hf;simp only[PV.freeL,aI]at hf;exact .cons k v cs e es (f _ _ hf.1 hk) hkk (f _ _ hf.2.1 hv) (ih hf.2.2)
def ma{raw:Bool}{S0 S1:St}{r:PV}{u:Value}{w1:World}{g1:Gh}(hS:SR X g S0 w)(hle:Le g w g1 w1)(hS1:SR X g1 S1 w1)(hr:VR X g1 w1 r u) :
  bu X g w (ac raw S0 S1 r).2 (ac raw S0 S1 r).1 u w1:=by
 unfold ac;split
 ·exact⟨g1,hle,hS1,hr⟩
 split
 ·exact⟨g1,hle,hS1,hr⟩
 rename_i r' hsol;have hfree:=yh _ hsol;have hge:∀b,g1.pub b≤eR g1 S0.objs.length S1 b:=Pb hS1
 have hr':VR X {g1 with pub:=eR g1 S0.objs.length S1} w1 r' u:=
  Pa (g2:={g1 with pub:=eR g1 S0.objs.length S1}) hS1 (n0:=S0.objs.length) (fun _ _ h=>h) (fun _ _ h=>h) hge (Pc hS1) (dJ+1) dJ (by omega) hsol hr
 have hno:∀{i b:Nat},g.obj i=some b→bt S1 i→∀id,S0.objs.length≤id→bt S1 id→g1.obj id≠some b:=by
  intro i b h hli id hid _ e;obtain⟨cs0,us0,t0,q1,_⟩:=hS.obj i b h;have hlt:=(aL.1 q1).1;have:=hS1.inj _ _ _ e (hle.obj i b h) hli;omega
 have hna:∀{b:Nat} {x:Nat×Nat},g1.arr b=some x→∀id,S0.objs.length≤id→bt S1 id→g1.obj id≠some b:=by
  intro b x h id _ _ e;have:=(hS1.objpub id b e).2;rw[h]at this;cases this
 have hPl:∀b,w1.heap.size≤b→eR g1 S0.objs.length S1 b=0:=by
  intro b hb;rw[kF (fun id _ _ e=>by have:=fi hS1 id b e;omega)];exact(hS1.lt b hb).1
 have hPN:∀b,b<w.heap.size→(∀id,g.obj id≠some b)→g.arr b=none→(∀id,g.mp id≠some b)→eR g1 S0.objs.length S1 b=g.pub b:=by
  intro b hb ho ha hm
  rw[kF (fun id _ _ e=>by
   rcases hle.objN id b e with⟨i,e1⟩|e1
   ·exact ho i e1
   ·omega)]
  exact hle.pubN b hb ho ha hm
 split
 ·rename_i hb;have htake:=jL hb
  have hnt:∀id sz,g.asz id=some sz→id<S0.tips.length:=fun id sz h=>by
   obtain⟨tip,h1⟩:=hS.asz id sz h;exact(aL.1 h1).1
  let g2:Gh:={
   obj:=g.obj
   arr:=fun b=>match g1.arr b with|some (id,base)=>(match g.asz id with|some _=>some (id,base)|none=>none)|none=>none
   asz:=g.asz
   pub:=eR g1 S0.objs.length S1
   mp:=g.mp
   mfz:=g.mfz}
  have harr:∀b id base,g2.arr b=some (id,base)↔(g1.arr b=some (id,base)∧∃sz,g.asz id=some sz):=by
   intro b id base;simp only[g2]
   cases h:g1.arr b with
   |none=>simp
   |some x=>
    obtain⟨i,bs⟩:=x;simp only
    cases hi:g.asz i with
    |some sz=>
     simp only;constructor
     ·intro e;cases e;exact⟨rfl,sz,hi⟩
     ·rintro⟨e,_⟩;exact e
    |none=>
     simp only;constructor
     ·intro e;cases e
     ·rintro⟨e,sz,h2⟩;cases e;rw[hi]at h2;cases h2
  have hres:∀{c:PV} {u uA:Value},VR X g1 w1 c u→VR X g w c uA→VR X g2 w1 c u:=by
   intro c u uA r rA;refine VR.restrict (gA:=g) (g1:=g1) (g2:=g2) ?_ ?_ ?_ hge ?_ r uA rA
   ·intro id b bA e eA;have:=hle.obj id bA eA;rw[e]at this;cases this;exact eA
   ·intro b id base szA e eA;exact(harr b id base).2 ⟨e,szA,eA⟩
   ·intro id sz szA e eA;have:=hle.asz id szA eA;rw[e]at this;cases this;exact eA
   ·intro id b bA e eA;have:=hle.mp id bA eA;rw[e]at this;cases this;exact eA
  have hnm:∀{i b:Nat},g.mp i=some b→eR g1 S0.objs.length S1 b=g1.pub b:=by
   intro i b h;obtain⟨_,_,_,_,q,_⟩:=hS1.maps.ent i b (hle.mp i b h);refine kF (fun id _ _ e=>?_);obtain⟨_,_,_,_,⟨_,q2,_⟩,_⟩:=hS1.obj id b e;rw[q]at q2;cases q2
  refine⟨g2,⟨hle.os,hle.tape,hle.output,hle.size,fun _ _ h=>h,fun b x h=>?_,fun _ _ h=>h,fun b=>Nat.le_trans (hle.pub b) (hge b),hle.cell,hle.shape,fun id _ h=>.inl ⟨id,h⟩,fun b x h=>?_,hle.keep,hPN,fun _ _ h=>h,fun _ _ h=>.inl h,fun b es c e1 e2=>⟨e1,(hle.mf b es c e1 e2).2⟩⟩,?_,
   VR.freeze (g1:={g1 with pub:=eR g1 S0.objs.length S1}) (g2:=g2) (fun _=>aR _) hr' hfree⟩
  ·obtain⟨id,base⟩:=x;obtain⟨sz,tip,k1,_⟩:=hS.arr b id base h;exact(harr b id base).2 ⟨hle.arr b _ h,sz,k1⟩
  ·obtain⟨id,base⟩:=x;exact hle.arrN b _ ((harr b id base).1 h).1
  ·refine⟨fun id b h=>?_,hS.inj,fun i b h=>?_,fun b id base h=>?_,fun id sz h=>?_,fun b hb'=>?_,⟨fun id b h=>?_,hS.maps.inj,fun i b h=>?_,hS.maps.dis,hS.maps.fz⟩,(hS.gl.le hle).sub (fun id b h=>⟨id,hle.obj id b h⟩) (fun b h=>by simp only[g2,h]) (fun id b h=>⟨id,hle.mp id b h⟩)⟩
   ·obtain⟨cs0,us0,t0,q1,q2,q3,q4⟩:=hS.obj id b h;obtain⟨cs,us,t,k1,k2,k3,k4⟩:=hS1.obj id b (hle.obj id b h);have hlt:=(aL.1 q1).1;have hcs:S0.objs[id]?=some cs:=by rw[←htake,cT hlt];exact k1
    rw[q1]at hcs;cases hcs;refine⟨_,us,t,q1,k2,k3,fun j c u e1 e2=>?_⟩;have hj:j<us0.size:=im (aL.1 e1).1 q3;exact hres (k4 j c u e1 e2) (q4 j c _ e1 (dy hj))
   ·obtain⟨k1,k2⟩:=hS1.objpub i b (hle.obj i b h);refine⟨fun hl=>?_,by simp only[g2,k2]⟩
    have hl1:bt S1 i:=by
     obtain⟨c,l,e⟩:=hl;have hlt:=(aL.1 e).1;rw[←htake,cT hlt]at e;exact⟨c,l,e⟩
    simp only[g2];rw[kF (hno h hl1)];exact k1 hl1
   ·obtain⟨k0,szA,hszA⟩:=(harr b id base).1 h;obtain⟨sz,tip,k1,k2,k3,k4⟩:=hS1.arr b id base k0;have:=hle.asz id szA hszA;rw[k1]at this;cases this;exact⟨_,tip,hszA,k2,by rw[cT (hnt id _ hszA)];exact k3,by simp only[g2];rw[kF (hna k0)];exact k4⟩
   ·obtain⟨tip,k1⟩:=hS1.asz id sz (hle.asz id sz h);exact⟨tip,by rw[cT (hnt id sz h)];exact k1⟩
   ·obtain⟨k1,k2⟩:=hS1.lt b hb';exact⟨hPl b hb',by simp only[g2,k2]⟩
   ·obtain⟨cs0,es0,cl0,q1,q2,q3,q4⟩:=hS.maps.ent id b h;obtain⟨cs,es,cl,k1,k2,k3,k4⟩:=hS1.maps.ent id b (hle.mp id b h);have hlt:=(aL.1 q1).1;have hcs:S0.objs[id]?=some cs:=by rw[←htake,cT hlt];exact k1
    rw[q1]at hcs;cases hcs;exact⟨_,es,cl,q1,k2,k3,ZV (fun c u uA=>hres) k4 q4⟩
   ·obtain⟨k1,k2⟩:=hS1.maps.pub i b (hle.mp i b h);exact⟨by simp only[g2];rw[hnm h];exact k1,by simp only[g2,k2]⟩
 split
 ·rename_i hfl;let g2:Gh:={obj:=g.obj,arr:=g1.arr,asz:=g1.asz,pub:=eR g1 S0.objs.length S1,mp:=g.mp,mfz:=g.mfz}
  have hnm:∀{i b:Nat},g.mp i=some b→eR g1 S0.objs.length S1 b=g1.pub b:=by
   intro i b h;obtain⟨_,_,_,_,q,_⟩:=hS1.maps.ent i b (hle.mp i b h);refine kF (fun id _ _ e=>?_);obtain⟨_,_,_,_,⟨_,q2,_⟩,_⟩:=hS1.obj id b e;rw[q]at q2;cases q2
  refine⟨g2,⟨hle.os,hle.tape,hle.output,hle.size,fun _ _ h=>h,hle.arr,hle.asz,fun b=>Nat.le_trans (hle.pub b) (hge b),hle.cell,hle.shape,fun id _ h=>.inl ⟨id,h⟩,hle.arrN,hle.keep,hPN,fun _ _ h=>h,fun _ _ h=>.inl h,fun b es c e1 e2=>⟨e1,(hle.mf b es c e1 e2).2⟩⟩,?_,
   VR.ofFree (g1:={g1 with pub:=eR g1 S0.objs.length S1}) (g2:=g2) (fun _ _ h=>h) (fun _ _ h=>h) (fun _=>aR _) hr' hfree⟩
  have hlive2:∀i,bt ⟨S1.objs.take S0.objs.length,S1.tips⟩ i→bt S1 i:=by
   rintro i ⟨c,l,e⟩;have hlt:=(aL.1 e).1;simp only[iG]at hlt;simp only at e;rw[cT (by omega)]at e;exact⟨c,l,e⟩
  refine⟨fun id b h=>?_,fun i j b h1 h2 h3=>hS1.inj i j b (hle.obj i b h1) (hle.obj j b h2) (hlive2 j h3),fun i b h=>?_,fun b id base h=>?_,hS1.asz,fun b hb'=>⟨hPl b hb',(hS1.lt b hb').2⟩,⟨fun id b h=>?_,hS.maps.inj,fun i b h=>?_,hS.maps.dis,fun b h=>?_⟩,(hS.gl.le hle).sub (fun id b h=>⟨id,hle.obj id b h⟩) (fun b h=>h) (fun id b h=>⟨id,hle.mp id b h⟩)⟩
  ·obtain⟨cs0,us0,t0,q1,q2,q3,q4⟩:=hS.obj id b h;obtain⟨cs,us,t,k1,k2,k3,k4⟩:=hS1.obj id b (hle.obj id b h);have hlt:=(aL.1 q1).1;have hcs:(S1.objs.take S0.objs.length)[id]?=some cs:=by rw[cT hlt];exact k1
   refine⟨cs,us,t,hcs,k2,k3,fun j c u e1 e2=>?_⟩;exact(k4 j c u e1 e2).ofFree (g1:=g1) (g2:=g2) (fun _ _ h=>h) (fun _ _ h=>h) hge (di (ya hfl _ (ct hcs)) c (ct e1))
  ·obtain⟨k1,k2⟩:=hS1.objpub i b (hle.obj i b h);refine⟨fun hl=>?_,k2⟩;have hl1:=hlive2 i hl;simp only[g2];rw[kF (hno h hl1)];exact k1 hl1
  ·obtain⟨sz,tip,k1,k2,k3,k4⟩:=hS1.arr b id base h;exact⟨sz,tip,k1,k2,k3,by simp only[g2];rw[kF (hna h)];exact k4⟩
  ·obtain⟨cs0,es0,cl0,q1,_⟩:=hS.maps.ent id b h;obtain⟨cs,es,cl,k1,k2,k3,k4⟩:=hS1.maps.ent id b (hle.mp id b h);have hlt:=(aL.1 q1).1;have hcs:(S1.objs.take S0.objs.length)[id]?=some cs:=by rw[cT hlt];exact k1
   exact⟨cs,es,cl,hcs,k2,k3,ZW (fun c u hf r=>r.ofFree (g1:=g1) (g2:=g2) (fun _ _ h=>h) (fun _ _ h=>h) hge hf) k4 (ya hfl _ (ct hcs))⟩
  ·obtain⟨k1,k2⟩:=hS1.maps.pub i b (hle.mp i b h);exact⟨by simp only[g2];rw[hnm h];exact k1,k2⟩
  ·obtain⟨id,cs0,q1,q2,q3⟩:=hS.maps.fz b h;obtain⟨_,es,c,_,e2,_⟩:=hS.maps.ent id b q1;obtain⟨id',cs,k1,k2,k3⟩:=hS1.maps.fz b (hle.mf b es c h e2).1;have:=hS1.maps.inj _ _ _ k1 (hle.mp id b q1);subst this;have hlt:=(aL.1 q2).1;exact⟨id',cs,q1,by simp only;rw[cT hlt];exact k2,k3⟩
 ·exact⟨g1,hle,hS1,hr⟩
end
end Ps
set_option linter.defProp false
namespace Ps
set_option linter.unusedVariables false
set_option linter.unusedSimpArgs false
open Go
def qJ(o:Oper):Bool:=(match o.op with|.call c=>(match c.callee with|.builtin .recover=>c.args.size==0|_=>false)|_=>false)&&o.guard.isNone
def PN{P:Program}{o:Oper}(h:qJ o=true)(ev:Operand→Value)(w:World):(execOp ev o).run P w=.ok .recover w∧o.guard=none:=by
 obtain⟨dst,op,ty,pos,after,guard⟩:=o;simp only[qJ,aI]at h;obtain⟨h,hg⟩:=h;cases op<;>simp only at h<;>try (cases h;done)
 rename_i c;split at h
 ·rename_i hc;have ha:c.args = #[]:=qY (by simpa using h);refine⟨?_,by simpa using hg⟩;simp[execOp,hc,ha,resolve,invoke,Result.andThen,Go.builtin]
 ·cases h
def Zj{P:Program}{id:Nat}{ops:Array Oper}{o1 o2:Oper}{rest:Code}{Q:Exit→Act→List Frame→World→Prop}{a:Act}{cs:List Frame}{w:World}{u:Value}
  (hops:ops = #[o1,o2])(h1:qJ o1=true)(hn:recoverD cs=none)(hg:o2.guard=none)(h2:(execOp (a.put o1.dst .nilIface).eval o2).run P w=.ok (.value u) w)
  (hr:rest.wp P (fun e a' w'=>Q e a' cs w') ((a.put o1.dst .nilIface).put o2.dst u) w):(Code.seq (.region id ops false) rest).wpS P Q a cs w:=by
 subst hops;refine wpS_seq (wpS_region ?_);obtain⟨r1,g1⟩:=PN (P:=P) h1 a.eval w;have w1:∀y,Region.wanted o1 y=true:=fun y=>by simp[Region.wanted,g1]
 have w2:∀y,Region.wanted o2 y=true:=fun y=>by simp[Region.wanted,hg]
 have hl:List.range (#[o1,o2]:Array Oper).size=[0,1]:=rfl;rw[hl];have e0:(#[o1,o2]:Array Oper)[0]?=some o1:=rfl;have e1:(#[o1,o2]:Array Oper)[1]?=some o2:=rfl;simp only[wpOpsS,e0,e1,w1,w2,if_true,r1,hn,h2,Oper.upon_value];exact wpS_of_wp hr
def PO{c₀:Frame}{cs:List Frame}(h:c₀.mode=.returning):recoverD (c₀::cs)=none:=by
 simp[recoverD,h]
end Ps
