/- Tables: what is told in one is told in a larger one; a function's own law as an entry of a table; a panic that is recovered. -/
import Derived.Test.YtpjmpaidcidjgaaGreatDoorAbbKt
import Derived.Test.YtpjmpaidcidjgaaGreatDoorCWKt
import Derived.Test.YtpjmpaidcidjgaaGreatDoorOkDKt
import Derived.KernelRfl
set_option linter.defProp false
namespace Ps
set_option linter.unusedVariables false
set_option linter.unusedSimpArgs false
open Go
def Tie.withT (X:Tie) (T:aM):Tie:={X with T:=T}
section
variable {X : Tie} {T : aM} {g : Gh} {w w' : World}
def VR.tb{v:PV}{u:Value}(r:VR X g w v u):VR (X.withT T) g w v u:=by
 induction r with
 |und u=>exact .und u
 |int k n=>exact .int k n
 |bool b=>exact .bool b
 |str s=>exact .str s
 |nilp=>exact .nilp
 |nils=>exact .nils
 |nili=>exact .nili
 |nilf=>exact .nilf
 |ptr id off b e=>exact .ptr id off b e
 |ref cs b o us hpub hc _ ih=>exact .ref cs b o us hpub hc ih
 |sl tip es sp b o cap sz us hcap hpos hsz hpub hc _ hlink hone ih=>exact .sl tip es sp b o cap sz us hcap hpos hsz hpub hc ih hlink hone
 |slz a=>exact .slz a
 |osl id off len sz cap b e hl hr=>exact .osl id off len sz cap b e hl hr
 |emp a=>exact .emp a
 |iface t v u _ ih=>exact .iface t v u ih
 |agg cs us hl _ ih=>exact .agg cs us hl ih
 |tup cs us hl _ ih=>exact .tup cs us hl ih
 |fn f cs us hl _ ih=>exact .fn f cs us hl ih
 |nilm=>exact .nilm
 |map id b e=>exact .map id b e
 |hnd b=>exact .hnd b
 |bfn f cs us hl _ ih=>exact .bfn f cs us hl ih
def MR.tb{cs:List PV}{es:List MapEntry}(h:MR X g w cs es):MR (X.withT T) g w cs es:=by
 induction h with
 |nil=>exact .nil
 |mark=>exact .mark
 |cons k v cs e es hk hkk hv _ ih=>exact .cons k v cs e es hk.tb hkk hv.tb ih
def SR.tb{S:St}(h:SR X g S w):SR (X.withT T) g S w:=
 ⟨fun id b e=>by obtain⟨cs,us,t,h1,h2,h3,h4⟩:=h.obj id b e;exact⟨cs,us,t,h1,h2,h3,fun j c u e1 e2=>(h4 j c u e1 e2).tb⟩,h.inj,h.objpub,h.arr,h.asz,h.lt,
  ⟨fun id b e=>by obtain⟨cs,es,c,h1,h2,h3,h4⟩:=h.maps.ent id b e;exact⟨cs,es,c,h1,h2,h3,h4.tb⟩,h.maps.inj,h.maps.pub,h.maps.dis,h.maps.fz⟩,h.gl⟩
def bD.tb{cs:List PV}{us:Array Value}(h:bD X g w cs us):bD (X.withT T) g w cs us:=⟨h.1,fun j c u e1 e2=>(h.2 j c u e1 e2).tb⟩
def bu.tb{S:St}{r:PV}{u:Value}(h:bu X g w S r u w'):bu (X.withT T) g w S r u w':=by
 obtain⟨g',h1,h2,h3⟩:=h;exact⟨g',h1,h2.tb,h3.tb⟩
def ca.tb{f:Nat}{args:List PV}{S:St}{R:Rs→Prop}(h:ca X f args S R):ca (X.withT T) f args S R:=by
 intro g w us hS hV;have hS':SR X g S w:=by have:=hS.tb (T:=X.T);exact this
 have hV':bD X g w args us:=by have:=hV.tb (T:=X.T);exact this
 obtain⟨h1,h2⟩:=h g w us hS' hV';refine⟨h1,h2.mono fun e w' he=>?_⟩
 cases e with
 |returned u=>obtain⟨v,S',q1,q2⟩:=he;exact⟨v,S',q1,q2.tb⟩
 |panicked ch=>obtain⟨v,S',u,q0,q1,q2⟩:=he;exact⟨v,S',u,q0,q1,q2.tb⟩
 |outgrown=>exact he.elim
def oH{f:Nat}{e:List PV→St→Option (PV×St)}(h:∀args S r S',e args S=some (r,S')→ca X f args S (fun q=>q=.ret r S')):oB (X.withT T) f e:=by
 intro args S r S' he g w us hS hV o a next Q hn
 obtain⟨h1,h2⟩:=(h args S r S' he).tb (T:=T) g w us hS hV;have h1':(callFunc ((X.withT T).fnOf f) us).run (X.withT T).P w=.ok (.enter ((X.withT T).fnOf f) us) w:=h1;rw[h1',Oper.upon_enter];refine h2.mono fun e w' he=>?_
 cases e with
 |returned u=>obtain⟨v,S1,q1,q2⟩:=he;cases q1;exact hn u w' q2
 |panicked ch=>obtain⟨v,S1,u,q0,q1,q2⟩:=he;cases q1
 |outgrown=>exact he.elim
def bY.of(hX:bY X)(hm:T.meth=X.T.meth)(h:∀f pf,T.fn f=some pf→ai (X.withT T) f pf):bY (X.withT T) where
 ty:=hX.ty
 meth:=fun t m f e u w=>hX.meth t m f (by have:T.meth t m=some f:=e;rw[hm]at this;exact this) u w
 mixed:=hX.mixed
 fns:=h
def yj(fn:Func)(c:aT):ah (X.withT T) fn c=ah X fn c:=by kernel_rfl
def Zs(fn:Func)(c:dg):tE (X.withT T) fn c=tE X fn c:=by kernel_rfl
def ai.tb{f:Nat}{pf:nK}(h:ai X f pf):ai (X.withT T) f pf:=by
 cases pf with
 |code c=>
  obtain⟨fn,h1,h2⟩:=h
  exact⟨fn,h1,by rw[yj];exact h2⟩
 |codeD c=>
  obtain⟨fn,h1,h2⟩:=h
  exact⟨fn,h1,by rw[Zs];exact h2⟩
 |indexByte=>exact h
 |ext e=>
  intro args r he g w S us hS hV;have hS':SR X g S w:=by have:=hS.tb (T:=X.T);exact this
  have hV':bD X g w args us:=by have:=hV.tb (T:=X.T);exact this
  intro o a next Q hn
  exact h args r he g w S us hS' hV' o a next Q (fun u w' q=>hn u w' q.tb)
 |exs e=>
  intro args S r S' he g w us hS hV;have hS':SR X g S w:=by have:=hS.tb (T:=X.T);exact this
  have hV':bD X g w args us:=by have:=hV.tb (T:=X.T);exact this
  intro o a next Q hn
  exact h args S r S' he g w us hS' hV' o a next Q (fun u w' q=>hn u w' q.tb)
end
structure qK(T T':aM):Prop where
 fn:∀f p,T.fn f=some p→T'.fn f=some p
 meth:T'.meth=T.meth
def yk{T T':aM}(hm:T'.meth=T.meth)(call:aX)(k:Nat)(c:aN)(fr:Fr)(S:St):aU T' call k c fr S=aU T call k c fr S:=by
 obtain⟨f,m⟩:=T;obtain⟨f',m'⟩:=T';cases hm
 kernel_rfl
def Zt{T T':aM}(hm:T'.meth=T.meth)(call:aX)(l:List aA)(fr:Fr)(S:St):aY T' call l fr S=aY T call l fr S:=by
 obtain⟨f,m⟩:=T;obtain⟨f',m'⟩:=T';cases hm
 kernel_rfl
def Zu{T T':aM}(hm:T'.meth=T.meth)(call:aX)(k:Nat)(l:List aN)(fr:Fr)(S:St):jG T' call k l fr S=jG T call k l fr S:=by
 obtain⟨f,m⟩:=T;obtain⟨f',m'⟩:=T';cases hm
 kernel_rfl
def Zv{T T':aM}(hm:T'.meth=T.meth)(call:aX)(k:Nat)(c:aT)(caps:List PV)(fr:Fr)(S:St):ke T' call k c caps fr S=ke T call k c caps fr S:=by
 obtain⟨f,m⟩:=T;obtain⟨f',m'⟩:=T';cases hm
 kernel_rfl
def Pd{T T':aM}(h:qK T T'){call:aX}{k:Nat}{f:dg}{cf:Nat}{caps:List PV}{fr:Fr}{S:St}{r:Fr×St}(e:jH T call k f cf caps fr S=some r):jH T' call k f cf caps fr S=some r:=by
 unfold jH at e ⊢
 cases hrc:f.rcl with
 |none=>
  rw[hrc]at e;simp only at e ⊢;split at e
  ·rename_i hcf
   have:Me (T'.fn cf)=true:=by
    cases hq:T.fn cf with
    |none=>rw[hq]at hcf;cases hcf
    |some p=>rw[h.fn cf p hq];rw[hq]at hcf;exact hcf
   rw[if_pos this];exact e
  ·cases e
 |some q=>
  obtain⟨cf',c⟩:=q;rw[hrc]at e;simp only at e ⊢;rw[Zv h.meth];exact e
def Zw{T T':aM}(h:qK T T'){call:aX}{k:Nat}{f:dg}{fr:Fr}{S:St}{r:Fr×St}(e:jI T call k f fr S=some r):jI T' call k f fr S=some r:=by
 unfold jI at e ⊢;rw[Zu h.meth];split at e
 ·cases e
 ·rename_i fr1 S1 hps;split at e
  ·cases e
  ·rename_i fr2 S2 hops;simp only[hps,Zt h.meth,hops];split at e
   ·rename_i cf caps ht;split at e
    ·rename_i fr3 S3 hr;simp only[ht,yk h.meth,hr];exact Pd h e
    ·rename_i fr3 S3 hr;simp only[ht,yk h.meth,hr];exact Pd h e
    ·cases e
   ·cases e
def Zx{T T':aM}(h:qK T T'):∀k,fA (ax T k) (ax T' k):=by
 intro k
 induction k with
 |zero=>intro f args S r e;simp[ax]at e
 |succ k ih=>
  intro f args S r e;simp only[ax]at e ⊢
  cases hf:T.fn f with
  |none=>rw[hf]at e;cases e
  |some p=>
   rw[hf]at e;rw[h.fn f p hf]
   cases p with
   |indexByte=>exact e
   |ext x=>exact e
   |exs x=>exact e
   |codeD c=>
    simp only at e ⊢;split at e
    ·rename_i ha;rw[if_pos ha]
     cases hd:jI T (ax T k) k c (bX args) S with
     |none=>rw[hd]at e;cases e
     |some q=>rw[hd]at e;rw[Zw h (Mw ih (aR k) hd)];exact e
    ·cases e
   |code c=>
    simp only at e ⊢;split at e
    ·rename_i ha;rw[if_pos ha]
     cases hd:aU T (ax T k) k c.body (bX args) S with
     |none=>rw[hd]at e;cases e
     |some q=>rw[hd]at e;rw[yk h.meth,iQ ih (aR k) hd];exact e
    ·cases e
def Zy{T T':aM}(h:qK T T'){f:Nat}{args:List PV}{S:St}{r:PV×St}(e:aS T f args S=some r):aS T' f args S=some r:=by
 obtain⟨k,hk⟩:=jq.1 e;exact xB k (Zx h k _ _ _ _ hk)
def Zz{P:Program}{id:Nat}{ops:Array Oper}{o1 o2:Oper}{rest:Code}{Q:Exit→Act→List Frame→World→Prop}{a:Act}{cs cs':List Frame}{w:World}{u rv:Value}
  (hops:ops = #[o1,o2])(h1:qJ o1=true)(hn:(recoverD cs=none∧rv=.nilIface∧cs'=cs)∨recoverD cs=some (rv,cs'))(hg:o2.guard=none)(h2:(execOp (a.put o1.dst rv).eval o2).run P w=.ok (.value u) w)
  (hr:rest.wp P (fun e a' w'=>Q e a' cs' w') ((a.put o1.dst rv).put o2.dst u) w):(Code.seq (.region id ops false) rest).wpS P Q a cs w:=by
 subst hops;refine wpS_seq (wpS_region ?_);obtain⟨r1,g1⟩:=PN (P:=P) h1 a.eval w;have w1:∀y,Region.wanted o1 y=true:=fun y=>by simp[Region.wanted,g1]
 have w2:∀y,Region.wanted o2 y=true:=fun y=>by simp[Region.wanted,hg]
 have hl:List.range (#[o1,o2]:Array Oper).size=[0,1]:=rfl;rw[hl];have e0:(#[o1,o2]:Array Oper)[0]?=some o1:=rfl;have e1:(#[o1,o2]:Array Oper)[1]?=some o2:=rfl;rcases hn with⟨hn,rfl,rfl⟩|hn
 ·simp only[wpOpsS,e0,e1,w1,w2,if_true,r1,hn,h2,Oper.upon_value];exact wpS_of_wp hr
 ·simp only[wpOpsS,e0,e1,w1,w2,if_true,r1,hn,h2,Oper.upon_value];exact wpS_of_wp hr
section
variable {X : Tie} {g : Gh} {w : World}
inductive lK:FrameMode→Value→FrameMode→Prop where
 |none:lK .returning .nilIface .returning
 |some (v:Value):lK (.panicking [{v:=v,recovered:=false}]) v (.panicking [{v:=v,recovered:=true}])
def lK.settle{u u':FrameMode}{v:Value}(h:lK u v u'):Go.settle u'=.returning:=by
 cases h<;>rfl
def lK.ne{u u':FrameMode}{v:Value}(h:lK u v u'):u≠.run:=by
 cases h<;>simp
def mg(X:Tie)(rc:aT)(caps:List PV)(pv:PV)(S S':St):Prop:=
 ∃d1 d2 y pb,rc.body=.seq (.region [⟨d1,.mov (.cst .nili),none⟩,⟨d2,.mov y,none⟩]) pb∧caps.length=rc.params ∧
  Ok (aF X.T [.code pb] (aO (aO (bX caps) d1 pv) d2 (ev (aO (bX caps) d1 pv) y)) S) (fun fr4 S4=>∃vs,bb fr4 S4 rc.results=some vs∧S'=(ac rc.raw S S4 (bP vs)).2)
def aAa(hX:bY X){cf:Nat}{c:aT}(hc:oA X cf c=true){caps:List PV}{S S':St}{us:Array Value}{u u':FrameMode}{rv:Value}{pv:PV}(hu:lK u rv u')(hrv:VR X g w pv rv)
  (h:mg X c caps pv S S')(hS:SR X g S w)(hV:bD X g w caps us) :
  (callFunc (X.fnOf cf) us).run X.P w=.ok (.enter (X.fnOf cf) us) w∧CallsD X.P (X.fnOf cf) us u w (fun e v w'=>v=u'∧∃x r,e=.returned x∧bu X g w S' r x w'):=by
 obtain⟨d1',d2',y',pb',hbd,hargs,⟨fr2,S2⟩,hg,vs,hra,hS'⟩:=h;obtain⟨k,e,hcode,he⟩:=Nf hg;unfold oA at hc;split at hc
 rotate_left
 ·cases hc
 rename_i fn hfn;simp only[aI,bne_iff_ne,ne_eq]at hc;obtain⟨⟨hn,hres⟩,hc⟩:=hc;split at hc
 rotate_left
 ·cases hc
 rename_i id ops b hbody;split at hc
 rotate_left
 ·cases hc
 rename_i d1 d2 y pb hpb;rw[hbd]at hpb;simp only[aN.seq.injEq,aN.region.injEq,zK,aA.mk.injEq,bC.mov.injEq,true_and,and_true]at hpb;obtain⟨⟨rfl,rfl,rfl⟩,rfl⟩:=hpb;split at hc
 rotate_left
 ·cases hc
 rename_i o1 o2 hops;simp only[aI,beq_iff_eq]at hc;obtain⟨⟨⟨⟨⟨⟨⟨c1,rfl⟩,rfl⟩,c4⟩,c5⟩,c6⟩,c7⟩,c8⟩:=hc;have hops':ops = #[o1,o2]:=by have:=congrArg List.toArray hops;simpa using this
 have hF:=oD (fn:=fn) hV hargs;refine⟨iW hfn hn hbody,?_⟩
 have hd1:∀t,o1.dst=some t→t<c.params+(fn.ntmps-c.params):=by
  intro t ht;rw[ht]at c6;simpa using c6
 have hd2:∀t,o2.dst=some t→t<c.params+(fn.ntmps-c.params):=by
  intro t ht;rw[ht]at c7;simpa using c7
 have hF1:=hF.put (d:=o1.dst) hd1 hrv;obtain⟨u2,hrun2,hv2⟩:=xu hF1 c5 o2.dst o2.type o2.pos o2.after o2.guard;have hF2:=hF1.put (d:=o2.dst) hd2 hv2;refine callsD_of_wpS hfn hbody (fun c₀ cs hm=>Zz (cs':={c₀ with mode:=u'}::cs) hops' c1 ?_ (by simpa using c4) hrun2 ?_)
 ·cases hu with
  |none=>exact .inl ⟨PO hm,rfl,by cases c₀;cases hm;rfl⟩
  |some v=>exact .inr (by simp[recoverD,hm])
 refine(lH hX.ty hX.meth (qI hX k) hX.mixed ⟨c.params+(fn.ntmps-c.params),[]⟩ k).1 b pb' _ S e fr2 S2 g w _ _ c8 hS hF2 hcode (fun g1 w1 a1 hle hS1 hF3=>?_);obtain⟨x,q1,q2⟩:=oC hS1 hF3 hres hra;have hst:=ma (raw:=c.raw) hS hle hS1 q2;rw[←hS']at hst;rcases he with rfl|rfl
 ·exact⟨hF3.defers,u',rfl,x,q1,rfl,x,_,rfl,hst⟩
 ·exact⟨hF3.defers,u',rfl,x,q1,rfl,x,_,rfl,hst⟩
def lL(X:Tie)(n:Nat)(f:dg):Code→List aN→Bool
 |.seq a b,p::ps=>bw X n a p&&lL X n f b ps
 |.seq (.region _ ops false) b,[]=>(match ops.toList with
  | [o1,o2]=>dL X n ops o1 f.clo&&f.clo.dst==some f.t&&(match o2.op with
   |.defer c=>(match c.callee with|.value (.tmp t)=>t==f.t&&c.args.size==0|_=>false)
   |_=>false)&&o2.dst==none&&o2.guard==none
  |_=>false)&&cG X n b f.rest
 |_,_=>false
def iY(X:Tie)(fn:Func)(c:dg):Bool:=
 (match fn.body with|some b=>lL X (c.params+(fn.ntmps-c.params)) c b c.pre|none=>false)&&fn.name != "runtime.NumGoroutine" && fG X fn.results.toList c.results&&(match c.rcl with|none=>false|some (cf,r)=>oA X cf r)
def aAb(hX:bY X){f:dg}{n:Nat}{Q:Exit→Act→World→Prop}{fr1 fr2:Fr}{S1 S2:St}{cf:Nat}{caps:List PV}{Post:Wx→Fr→St→Prop}
  (ho:aY X.T (aS X.T) [f.clo] fr1 S1=some (fr2,S2))(ht:fr2 f.t=.fn cf caps)(hr:W X f.rest fr2 S2 Post) :
  ∀(ps:List aN) (c:Code) (g:Gh) (w:World) (fr:Fr) (S:St) (a:Act),lL X n f c ps=true→SR X g S w→FR X ⟨n,[]⟩ g w fr a→sI X.T ps fr S fr1 S1 →
  (∀g3 w3 us,Le g w g3 w3→bD X g3 w3 caps us→∀e a' w',iZ X ⟨n,[⟨.fn (.func (X.fnOf cf)) us,#[]⟩]⟩ g3 w3 Post e a' w'→Q e a' w')→c.wp X.P Q a w:=by
 intro ps
 induction ps with
 |nil=>
  intro c g w fr S a hc hS hF hp hQ;obtain⟨rfl,rfl⟩:=hp;cases c<;>try (simp[lL]at hc;done)
  rename_i x b;cases x<;>try (simp[lL]at hc;done)
  rename_i id ops draw;cases draw<;>try (simp[lL]at hc;done)
  simp only[lL]at hc;rw[aI]at hc;obtain⟨hc,hb⟩:=hc;split at hc
  ·rename_i o1 o2 hops;simp only[aI,beq_iff_eq]at hc;obtain⟨⟨⟨⟨c1,c2⟩,c3⟩,c4⟩,c5⟩:=hc;refine wp_seq (wp_region_list ?_);rw[hops]
   have hone:=kA hX.ty hX.meth (ly hX) (Q:=Exit.then (b.wp X.P Q) Q) c1 hS hF ho (K:=wpList X.P ops (Exit.then (b.wp X.P Q) Q) [o2]) (fun g1 w1 a1 fr' S' hle hS1 hF1 hl=>by
    cases hl;have hwant:Region.wanted o2 (yielded ops a1.tmps)=true:=by simp[Region.wanted,c5]
    simp only[wpList,hwant,if_true];refine .inl ?_;obtain⟨dst,op,ty,pos,after,guard⟩:=o2;simp only at c3 c4;subst c4;cases op<;>simp only at c3<;>try (cases c3;done)
    rename_i cl;split at c3
    ·rename_i t hcal;simp only[aI,beq_iff_eq]at c3;obtain⟨rfl,c6⟩:=c3;have hv:=hF1.at_ f.t;rw[ht]at hv;generalize hu:a1.tmps.getD f.t undef=u at hv
     cases hv with
     |fn _ _ us hl hvs=>
      have hargs:cl.args = #[]:=qY c6
      have hrun:(execOp a1.eval ⟨none,.defer cl,ty,pos,after,guard⟩).run X.P w1=.ok (.defer ⟨.fn (.func (X.fnOf cf)) us,#[]⟩) w1:=by
       have he:a1.eval (.tmp f.t)=.func (.func (X.fnOf cf)) #[] us:=hu;simp[execOp,resolve,hcal,hargs,he,Deferred.ofValue]
      unfold Oper.wp;rw[hrun,Oper.upon_defer];refine wp_mono (hr ⟨n,[⟨.fn (.func (X.fnOf cf)) us,#[]⟩]⟩ b hb g1 w1 _ hS1 ⟨hF1.size,hF1.at_,by simp[Act.put,hF1.defers]⟩) fun e a' w' he=>?_;exact hQ g1 w1 us hle ⟨hl,hvs⟩ e a' w' he
    ·cases c3)
   simp only[wpList];split
   ·rename_i hw;rw[if_pos hw]at hone;exact .inl hone
   ·rename_i hw;rw[if_neg hw]at hone;exact hone
  ·cases hc
 |cons p ps ihp=>
  intro c g w fr S a hc hS hF hp hQ;cases c<;>simp only[lL]at hc<;>try (cases hc;done)
  rename_i x b;rw[aI]at hc;obtain⟨fr2',S2',hp1,hp2⟩:=hp;obtain⟨j,hj⟩:=Wz hp1;refine wp_seq ((lH hX.ty hX.meth (qI hX j) hX.mixed ⟨n,[]⟩ j).1 x p fr S .norm fr2' S2' g w a _ hc.1 hS hF hj (fun g1 w1 a1 hle hS1 hF1=>?_));exact ihp b g1 w1 fr2' S2' a1 hc.2 hS1 hF1 hp2 (fun g3 w3 us hle3=>hQ g3 w3 us (hle.trans hle3))
def Pe(hX:bY X){f:Nat}{fn:Func}{c:dg}(hf:X.P.funcs[X.fnOf f]?=some fn)(hc:iY X fn c=true){args:List PV}{S S1 S2:St}{fr1 fr2:Fr}{cf:Nat}{rc:aT}{caps:List PV}(ha:args.length=c.params)
  (hrc:c.rcl=some (cf,rc))(hpre:sI X.T c.pre (bX args) S fr1 S1)(ho:aY X.T (aS X.T) [c.clo] fr1 S1=some (fr2,S2))(ht:fr2 c.t=.fn cf caps){R:Rs→Prop}
  (h:W X c.rest fr2 S2 (fun e fr3 S3=>match e with
   |.exit _=>False
   |.pan v=>∃S4 vs,mg X rc caps v S3 S4∧bb fr3 S4 c.results=some vs∧R (.ret (ac c.raw S S4 (bP vs)).1 (ac c.raw S S4 (bP vs)).2)
   |_=>∃S4 vs,mg X rc caps .nili S3 S4∧bb fr3 S4 c.results=some vs∧R (.ret (ac c.raw S S4 (bP vs)).1 (ac c.raw S S4 (bP vs)).2))):ca X f args S R:=by
 intro g w us hS hV;simp only[iY,aI,bne_iff_ne,ne_eq]at hc;obtain⟨⟨⟨hb,hname⟩,hr⟩,hcl⟩:=hc;rw[hrc]at hcl;simp only at hcl;split at hb
 rotate_left
 ·cases hb
 rename_i body hbody;refine⟨iW hf hname hbody,calls_of_wp_defers hf hbody ?_⟩;have hF:=oD (fn:=fn) hV ha;refine aAb hX ho ht h c.pre body g w _ S _ hb hS hF hpre (fun g3 w3 us3 hle3 hV3 e a' w' he=>?_)
 have fin:∀(g':Gh) (fr':Fr) (S3 S4:St) (vs:List PV) (u u':FrameMode) (rv:Value) (pv:PV),Le g3 w3 g' w'→SR X g' S3 w'→FR X ⟨c.params+(fn.ntmps-c.params),[⟨.fn (.func (X.fnOf cf)) us3,#[]⟩]⟩ g' w' fr' a'→lK u rv u'→VR X g' w' pv rv →
   mg X rc caps pv S3 S4→bb fr' S4 c.results=some vs→R (.ret (ac c.raw S S4 (bP vs)).1 (ac c.raw S S4 (bP vs)).2)→Leaves X.P fn a'.tmps (oI X g w R) a'.defers u w':=by
  intro g' fr' S3 S4 vs u u' rv pv hle hS3 hF3 hu hrv hre hres hR;rw[hF3.defers];obtain⟨q1,q2⟩:=aAa hX hcl hu hrv hre hS3 ⟨hV3.1,fun j c u e1 e2=>(hV3.2 j c u e1 e2).mono hle⟩;refine leaves_cons hu.ne (by simpa[invoke]using q1) (q2.mono fun e' m' w'' hh=>?_);obtain⟨rfl,x,r,rfl,g4,hle4,hS4,hv4⟩:=hh;obtain⟨v,z1,z2⟩:=oC hS4 (hF3.mono hle4) hr hres;show Leaves X.P fn a'.tmps (oI X g w R) [] (Go.settle m') w'';rw[hu.settle];exact⟨v,z1,_,_,hR,ma (raw:=c.raw) hS ((hle3.trans hle).trans hle4) hS4 z2⟩
 cases e with
 |normal=>
  obtain⟨g',fr',S3,h1,h2,h3,S4,vs,h4,h5,h6⟩:=he
  exact fin g' fr' S3 S4 vs _ _ _ _ h1 h2 h3 .none .nili h4 h5 h6
 |ret=>
  obtain⟨g',fr',S3,h1,h2,h3,S4,vs,h4,h5,h6⟩:=he
  exact fin g' fr' S3 S4 vs _ _ _ _ h1 h2 h3 .none .nili h4 h5 h6
 |exit m=>obtain⟨g',fr',S3,h1,h2,h3,h4⟩:=he;exact h4.elim
 |panic ch=>
  obtain⟨g',fr',S3,v,u,rfl,h1,h2,h3,h4,S4,vs,h5,h6,h7⟩:=he
  exact fin g' fr' S3 S4 vs _ _ _ _ h1 h2 h3 (.some u) h4 h5 h6 h7
 |goto j=>exact he.elim
 |outgrown=>exact he.elim
end
end Ps
