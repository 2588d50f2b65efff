/- A library's function that is given by what it answers: maps.Clone; slices.Sorted over maps.Keys. -/
import Derived.Test.YtpjmpaidcidjgaaGreatDoorDefsKb
import Derived.Test.YtpjmpaidcidjgaaGreatDoorSimRKb
import GoSem.Extern.BytealgIndexByte
import Derived.Defers
import Derived.Test.YtpjmpaidcidjgaaGreatDoorGoKb
import Derived.ChangeSame
import GoSem.Extern.Table
import Derived.Test.YtpjmpaidcidjgaaGreatDoorSimMpKb
import Derived.Sort.KeysCollected
import Derived.Shelf.SlMaps.Clone
set_option linter.defProp false
namespace Ps
open Go
def gi(X:Tie):List ResultVar→List mu→Bool
 | [],[]=>true
 |.tmp t::l,.tmp s::m=>t==s&&gi X l m
 |.cell t ty::l,.cell s ag n::m=>t==s&&jE X.P ty ag n&&gi X l m
 |_,_=>false
def bF(X:Tie)(fn:Func)(c:aX):Bool:=
 (match fn.body with|some b=>cg X (c.params+(fn.ntmps-c.params)) b c.body|none=>false)&&fn.name != "runtime.NumGoroutine" && gi X fn.results.toList c.results
def nX(X:Tie)(n:Nat)(f:gR):Code→List aS→Bool
 |.seq a b,p::ps=>cg X n a p&&nX X n f b ps
 |.seq (.region _ ops false) b,[]=>(match ops.toList with
  | [o1,o2]=>eK X n ops o1 f.clo&&f.clo.dst==some f.t&&(match o2.op with
   |.defer c=>(match c.callee with|.value (.tmp t)=>t==f.t&&c.args.size==0|_=>false)
   |_=>false)&&o2.dst==none&&o2.guard==none
  |_=>false)&&cg X n b f.rest
 |_,_=>false
def qz(X:Tie)(cf:Nat)(c:aX):Bool:=
 match X.P.funcs[X.fnOf cf]? with
 |some fn=>fn.name != "runtime.NumGoroutine" && gi X fn.results.toList c.results&&(match fn.body with
  |some (.seq (.region _ ops false) b)=>(match c.body with
   |.seq (.region [⟨d1,.mov (.cst .nili),none⟩,⟨d2,.mov y,none⟩]) pb=>(match ops.toList with
    | [o1,o2]=>tv o1&&o1.dst==d1&&o2.dst==d2&&o2.guard.isNone&&vO X y o2.op&&(match d1 with|some t=>decide (t<c.params+(fn.ntmps-c.params))|none=>true) &&
     (match d2 with|some t=>decide (t<c.params+(fn.ntmps-c.params))|none=>true)&&cg X (c.params+(fn.ntmps-c.params)) b pb
    |_=>false)
   |_=>false)
  |_=>false)
 |none=>false
def xV(X:Tie)(fn:Func)(c:gR):Bool:=
 (match fn.body with|some b=>nX X (c.params+(fn.ntmps-c.params)) c b c.pre|none=>false)&&fn.name != "runtime.NumGoroutine" && gi X fn.results.toList c.results&&(match c.rcl with|none=>true|some (cf,r)=>qz X cf r)
def rB(X:Tie)(f:Nat)(e:List PV→St→Option (PV×St)):Prop:=
 ∀(args:List PV) (S:St) (r:PV) (S':St),e args S=some (r,S')→∀(g:Gh) (w:World) (us:Array Value),SR X g S w→bX X g w args us→ov X (X.fnOf f) us w (fun u w'=>dA X g w S' r u w')
def aEC(X:Tie)(f:Nat)(e:List PV→Option PV):Prop:=
 ∀(args:List PV) (r:PV),e args=some r→∀(g:Gh) (w:World) (S:St) (us:Array Value),SR X g S w→bX X g w args us→ov X (X.fnOf f) us w (fun u w'=>dA X g w S r u w')
def az(X:Tie)(f:Nat):tA→Prop
 |.code c=>∃fn,X.P.funcs[X.fnOf f]?=some fn∧bF X fn c=true
 |.indexByte=>∀(us:Array Value) (w:World),(callFunc (X.fnOf f) us).run X.P w=((Extern.BytealgIndexByte.indexByte us).run X.P w).andThen fun v w=>.ok (.value v) w
 |.codeD c=>∃fn,X.P.funcs[X.fnOf f]?=some fn∧xV X fn c=true
 |.ext e=>aEC X f e
 |.exs e=>rB X f e
structure dR(X:Tie):Prop where
 ty:eV X
 meth:ff X
 mixed:X.P.follows .mixedOrders=true
 fns:∀f pf,X.T.fn f=some pf→az X f pf
section
variable {X : Tie} {g : Gh} {w : World}
def pH(tmps:Array Value):ResultVar→Sem Value
 |.tmp t=>pure (tmps.getD t undef)
 |.cell a t=>do loadVar t (←asAddr (tmps.getD a undef))
theorem Dj{n:Dn}{fr:Fr}{a:Act}{S:St}(hS:SR X g S w)(hF:FR X n g w fr a):∀{rs:List ResultVar} {ps:List mu} {vs:List PV},gi X rs ps=true→cF fr S ps=some vs →
  ∃us:List Value,(rs.mapM (pH a.tmps)).run X.P w=.ok us w∧vs.length=us.length∧∀(j:Nat) (c:PV) (u:Value),vs[j]?=some c→us[j]?=some u→VR X g w c u
 | [],[],vs,_,h=>by cases h;exact⟨[],by simp,rfl,fun j c u e=>by simp at e⟩
 |.tmp t::rs,.tmp s::ps,vs,hc,h=>by
  simp only[gi,aJ,beq_iff_eq]at hc;obtain⟨rfl,hc⟩:=hc;simp only[cF,gu]at h
  cases hr:cF fr S ps with
  |none=>rw[hr]at h;cases h
  |some vs'=>
   rw[hr]at h;cases h;obtain⟨us,h1,h2,h3⟩:=Dj hS hF hc hr;refine⟨a.tmps.getD t undef::us,by simp[pH,h1],by simp[h2],fun j c u e1 e2=>?_⟩
   cases j with
   |zero=>simp only[mR,ap]at e1 e2;subst e1;subst e2;exact hF.at_ t
   |succ j=>exact h3 j c u (by simpa using e1) (by simpa using e2)
 |.cell t ty::rs,.cell s ag m::ps,vs,hc,h=>by
  simp only[gi,aJ,beq_iff_eq]at hc;obtain⟨⟨rfl,hty⟩,hc⟩:=hc;simp only[cF]at h
  cases ho:gu fr S (.cell t ag m)with
  |none=>rw[ho]at h;cases h
  |some v=>
   rw[ho]at h
   cases hr:cF fr S ps with
   |none=>rw[hr]at h;cases h
   |some vs'=>
    rw[hr]at h;cases h;obtain⟨us,h1,h2,h3⟩:=Dj hS hF hc hr;have r:=hF.at_ t
    have hone:∃u,(pH a.tmps (.cell t ty)).run X.P w=.ok u w∧VR X g w v u:=by
     simp only[gu]at ho;split at ho
     ·rename_i cs e;rw[e]at r;obtain⟨b,o,k1,k2,k3⟩:=wl r;obtain⟨u,q1,q2⟩:=wk hty ho k2;exact⟨u,by simp only[pH,k1,asAddr,Sem.run_bind,Sem.run_pure,Result.andThen_ok,q1],q2⟩
     ·rename_i id off e;rw[e]at r;split at ho
      ·rename_i cs hcs;generalize hu:a.tmps.getD t undef=u at r
       cases r with
       |ptr _ _ b hb=>
        have hcc:=(ot hS hb hcs).drop off;rw[dO]at hcc;obtain⟨u,q1,q2⟩:=wk hty ho hcc;exact⟨u,by simp only[pH,hu,asAddr,Sem.run_bind,Sem.run_pure,Result.andThen_ok,q1],q2⟩
      ·cases ho
     ·cases ho
    obtain⟨u,k1,k2⟩:=hone;refine⟨u::us,by simp[k1,h1],by simp[h2],fun j c x e1 e2=>?_⟩
    cases j with
    |zero=>simp only[mR,ap]at e1 e2;subst e1;subst e2;exact k2
    |succ j=>exact h3 j c x (by simpa using e1) (by simpa using e2)
 | [],_::_,_,hc,_=>by simp[gi]at hc
 |.tmp _::_,[],_,hc,_=>by simp[gi]at hc
 |.cell _ _::_,[],_,hc,_=>by simp[gi]at hc
 |.tmp _::_,.cell _ _ _::_,_,hc,_=>by simp[gi]at hc
 |.cell _ _::_,.tmp _::_,_,hc,_=>by simp[gi]at hc
def rC{n:Dn}{fr:Fr}{a:Act}{S:St}(hS:SR X g S w)(hF:FR X n g w fr a){fn:Func}{ps:List mu}{vs:List PV}(hc:gi X fn.results.toList ps=true)(h:cF fr S ps=some vs) :
  ∃u,(results fn a.tmps).run X.P w=.ok u w∧VR X g w (bb vs) u:=by
 obtain⟨us,h1,h2,h3⟩:=Dj hS hF hc h
 have hm:(fn.results.mapM (pH a.tmps)).run X.P w=.ok us.toArray w:=by
  rw[Array.mapM_eq_mapM_toList];simp[h1]
 have hr:(results fn a.tmps)=(do let vs ←fn.results.mapM (pH a.tmps);pure (if h:vs.size=1 then vs[0]else .tuple vs)):=by
  unfold results
  congr 1
 rw[hr];simp only[Sem.run_bind,hm,Result.andThen_ok,Sem.run_pure];refine⟨_,rfl,?_⟩
 match vs,us,h2,h3 with
 | [],[],_,_=>exact .tup [] #[] rfl (fun j c u e=>by simp at e)
 | [v],[u],_,h3=>exact h3 0 v u rfl rfl
 |v::v'::vs,u::u'::us,h2,h3=>
  simp only[bb];rw[dif_neg (by simp)];exact .tup _ _ (by simpa using h2) (fun j c x e1 e2=>h3 j c x e1 (by simpa using e2))
def mM{P:Program}{f:FuncId}{fn:Func}{us:Array Value}{w:World}(hf:P.funcs[f]?=some fn)(hn:fn.name ≠ "runtime.NumGoroutine") {c:Code} (hb:fn.body=some c) :
  (callFunc f us).run P w=.ok (.enter f us) w:=by
 simp[callFunc,hf,hn,hb]
def aED(X:Tie)(call:ac):Prop:=
 ∀(f:Nat) (c:aX) (args:List PV) (S:St) (r:PV) (S':St),X.T.fn f=some (.code c)→call f args S=some (r,S')→∀(g:Gh) (w:World) (us:Array Value) (u:FrameMode),SR X g S w→bX X g w args us →
  (callFunc (X.fnOf f) us).run X.P w=.ok (.enter (X.fnOf f) us) w∧CallsD X.P (X.fnOf f) us u w (fun e u' w'=>u'=u∧∃v,e=.returned v∧dA X g w S' r v w')
def rD {fn:Func} {params:Nat} {args:List PV} {us:Array Value} (hV:bX X g w args us) (hargs:args.length=params):FR X ⟨params+(fn.ntmps-params),[]⟩ g w (bk args) {tmps:=us++Array.replicate (fn.ntmps-us.size) undef,defers:=[]}:=by
 have hsz:us.size=params:=by rw[←hV.1,hargs]
 refine⟨by simp[hsz],fun t=>?_,rfl⟩;simp only[bk]
 cases ht:args[t]? with
 |none=>exact .und _
 |some v=>
  have hlt:t<us.size:=by rw[←hV.1];exact(aM.1 ht).1
  simp only[Ef,fh];rw[jU hlt,gE hlt];exact hV.2 t v _ ht (gE hlt)
def UR(hX:dR X){k:Nat}(ih:dV X (bV X.T k)){c:aX}{fn:Func}{body:Code}(kb:cg X (c.params+(fn.ntmps-c.params)) body c.body=true)(kr:gi X fn.results.toList c.results=true)
  {args:List PV}{S S':St}{r:PV}{us:Array Value}(hS:SR X g S w)(hV:bX X g w args us)
  (h:(if args.length=c.params then
    match aY X.T (bV X.T k) k c.body (bk args) S with
    |some (.norm,fr,S')=>(match cF fr S' c.results with|some vs=>some (aW c.raw S S' (bb vs))|none=>none)
    |some (.ret,fr,S')=>(match cF fr S' c.results with|some vs=>some (aW c.raw S S' (bb vs))|none=>none)
    |_=>none
   else none)=some (r,S'))
  {R:Ending→World→Prop} (hn:∀u w',dA X g w S' r u w'→R (.returned u) w'):body.wp X.P (bodyPost X.P fn R) {tmps:=us++Array.replicate (fn.ntmps-us.size) undef,defers:=[]} w:=by
 split at h
 ·rename_i hargs;have hF:=rD (fn:=fn) hV hargs
  have fin:∀(e:Ex) (fr':Fr) (S1:St) (vs:List PV),aY X.T (bV X.T k) k c.body (bk args) S=some (e,fr',S1)→(e=.norm∨e=.ret)→cF fr' S1 c.results=some vs →
    aW c.raw S S1 (bb vs)=(r,S')→body.wp X.P (bodyPost X.P fn R) {tmps:=us++Array.replicate (fn.ntmps-us.size) undef,defers:=[]} w:=by
   intro e fr' S1 vs hc he hr hfin;refine(nV hX.ty hX.meth ih hX.mixed ⟨c.params+(fn.ntmps-c.params),[]⟩ k).1 body c.body (bk args) S e fr' S1 g w _ _ kb hS hF hc (fun g1 w1 a1 hle hS1 hF1=>?_);obtain⟨u,q1,q2⟩:=rC hS1 hF1 kr hr;have hst:=pG (raw:=c.raw) hS hle hS1 q2;rw[hfin]at hst;rcases he with rfl|rfl
   ·exact⟨hF1.defers,u,q1,hn u w1 hst⟩
   ·exact⟨hF1.defers,u,q1,hn u w1 hst⟩
  split at h
  ·rename_i fr' S1 hc;split at h
   ·rename_i vs hr;simp only[ap]at h;exact fin _ fr' S1 vs hc (.inl rfl) hr h
   ·cases h
  ·rename_i fr' S1 hc;split at h
   ·rename_i vs hr;simp only[ap]at h;exact fin _ fr' S1 vs hc (.inr rfl) hr h
   ·cases h
  ·cases h
 ·cases h
def aEE(hX:dR X){k:Nat}(ih:dV X (bV X.T k)){f:gR}{n:Nat}{Q:Exit→Act→World→Prop}{fr1 fr2 fr3:Fr}{S1 S2 S3:St}{e:Ex}{cf:Nat}{caps:List PV}
  (ho:ae X.T (bV X.T k) [f.clo] fr1 S1=some (fr2,S2))(ht:fr2 f.t=.fn cf caps)(hr:aY X.T (bV X.T k) k f.rest fr2 S2=some (e,fr3,S3)) :
  ∀(ps:List aS) (c:Code) (g:Gh) (w:World) (fr:Fr) (S:St) (a:Act),nX X n f c ps=true→SR X g S w→FR X ⟨n,[]⟩ g w fr a→kz X.T (bV X.T k) k ps fr S=some (fr1,S1) →
  (∀g3 w3 a3 us,Le g w g3 w3→SR X g3 S3 w3→FR X ⟨n,[⟨.fn (.func (X.fnOf cf)) us,#[]⟩]⟩ g3 w3 fr3 a3→bX X g3 w3 caps us→Q (qy e) a3 w3)→c.wp X.P Q a w:=by
 intro ps
 induction ps with
 |nil=>
  intro c g w fr S a hc hS hF hp hQ;cases hp;cases c<;>try (simp[nX]at hc;done)
  rename_i x b;cases x<;>try (simp[nX]at hc;done)
  rename_i id ops draw;cases draw<;>try (simp[nX]at hc;done)
  simp only[nX]at hc;rw[aJ]at hc;obtain⟨hc,hb⟩:=hc;split at hc
  ·rename_i o1 o2 hops;simp only[aJ,beq_iff_eq]at hc;obtain⟨⟨⟨⟨c1,c2⟩,c3⟩,c4⟩,c5⟩:=hc;refine wp_seq (wp_region_list ?_);rw[hops]
   have hone:=mH hX.ty hX.meth ih (Q:=Exit.then (b.wp X.P Q) Q) c1 hS hF ho (K:=wpList X.P ops (Exit.then (b.wp X.P Q) Q) [o2]) (fun g1 w1 a1 fr' S' hle hS1 hF1 hl=>by
    cases hl;have hwant:Region.wanted o2 (yielded ops a1.tmps)=true:=by simp[Region.wanted,c5]
    simp only[wpList,hwant,if_true];refine .inl ?_;obtain⟨dst,op,ty,pos,after,guard⟩:=o2;simp only at c3 c4;subst c4;cases op<;>simp only at c3<;>try (cases c3;done)
    rename_i cl;split at c3
    ·rename_i t hcal;simp only[aJ,beq_iff_eq]at c3;obtain⟨rfl,c6⟩:=c3;have hv:=hF1.at_ f.t;rw[ht]at hv;generalize hu:a1.tmps.getD f.t undef=u at hv
     cases hv with
     |fn _ _ us hl hvs=>
      have hargs:cl.args = #[]:=uH c6
      have hrun:(execOp a1.eval ⟨none,.defer cl,ty,pos,after,guard⟩).run X.P w1=.ok (.defer ⟨.fn (.func (X.fnOf cf)) us,#[]⟩) w1:=by
       have he:a1.eval (.tmp f.t)=.func (.func (X.fnOf cf)) #[] us:=hu;simp[execOp,resolve,hcal,hargs,he,Deferred.ofValue]
      unfold Oper.wp;rw[hrun,Oper.upon_defer];refine(nV hX.ty hX.meth ih hX.mixed ⟨n,[⟨.fn (.func (X.fnOf cf)) us,#[]⟩]⟩ k).1 b f.rest fr2 S2 e fr3 S3 g1 w1 _ _ hb hS1 ⟨hF1.size,hF1.at_,by simp[Act.put,hF1.defers]⟩ hr (fun g3 w3 a3 hle3 hS3 hF3=>?_);exact hQ g3 w3 a3 us (hle.trans hle3) hS3 hF3 ⟨hl,fun j c u e1 e2=>(hvs j c u e1 e2).mono hle3⟩
    ·cases c3)
   simp only[wpList];split
   ·rename_i hw;rw[if_pos hw]at hone;exact .inl hone
   ·rename_i hw;rw[if_neg hw]at hone;exact hone
  ·cases hc
 |cons p ps ihp=>
  intro c g w fr S a hc hS hF hp hQ;cases c<;>simp only[nX]at hc<;>try (cases hc;done)
  rename_i x b;rw[aJ]at hc;simp only[kz]at hp;split at hp
  ·rename_i fr' S' hpc;refine wp_seq ((nV hX.ty hX.meth ih hX.mixed ⟨n,[]⟩ k).1 x p fr S .norm fr' S' g w a _ hc.1 hS hF hpc (fun g1 w1 a1 hle hS1 hF1=>?_));exact ihp b g1 w1 fr' S' a1 hc.2 hS1 hF1 hp (fun g3 w3 a3 us hle3=>hQ g3 w3 a3 us (hle.trans hle3))
  ·cases hp
def aEF(hX:dR X){k:Nat}(ih:dV X (bV X.T k)){cf:Nat}{c:aX}(hc:qz X cf c=true){caps:List PV}{S S':St}{fr fr':Fr}{us:Array Value}
  (h:nB X.T (bV X.T k) k c caps fr S=some (fr',S'))(hS:SR X g S w)(hV:bX X g w caps us) :
  fr'=fr∧(callFunc (X.fnOf cf) us).run X.P w=.ok (.enter (X.fnOf cf) us) w∧CallsD X.P (X.fnOf cf) us .returning w (fun e u' w'=>u'=.returning∧∃v r,e=.returned v∧dA X g w S' r v w'):=by
 unfold qz at hc;split at hc
 rotate_left
 ·cases hc
 rename_i fn hfn;simp only[aJ,bne_iff_ne,ne_eq]at hc;obtain⟨⟨hn,hres⟩,hc⟩:=hc;split at hc
 rotate_left
 ·cases hc
 rename_i id ops b hbody;split at hc
 rotate_left
 ·cases hc
 rename_i d1 d2 y pb hpb;split at hc
 rotate_left
 ·cases hc
 rename_i o1 o2 hops;simp only[aJ,beq_iff_eq]at hc;obtain⟨⟨⟨⟨⟨⟨⟨c1,rfl⟩,rfl⟩,c4⟩,c5⟩,c6⟩,c7⟩,c8⟩:=hc;have hops':ops = #[o1,o2]:=by have:=congrArg List.toArray hops;simpa using this
 unfold nB at h;split at h
 rotate_left
 ·cases h
 rename_i hargs;have hF:=rD (fn:=fn) hV hargs
 obtain⟨e,fr2,S2,vs,hcode,he,hra,hfr,hS'⟩:∃(e:Ex) (fr2:Fr) (S2:St) (vs:List PV),aY X.T (bV X.T k) k c.body (bk caps) S=some (e,fr2,S2)∧(e=.norm∨e=.ret) ∧
   cF fr2 S2 c.results=some vs∧fr'=fr∧S'=(aW c.raw S S2 (bb vs)).2:=by
  split at h
  ·rename_i fr2 S2 hc2;split at h
   ·rename_i vs hv;cases h;exact⟨_,_,_,_,hc2,.inl rfl,hv,rfl,rfl⟩
   ·cases h
  ·rename_i fr2 S2 hc2;split at h
   ·rename_i vs hv;cases h;exact⟨_,_,_,_,hc2,.inr rfl,hv,rfl,rfl⟩
   ·cases h
  ·cases h
 refine⟨hfr,mM hfn hn hbody,?_⟩;rw[hpb]at hcode
 obtain⟨i,rfl⟩:∃i,k=i+2:=by
  match k,hcode with
  |0,hcode=>simp[aY]at hcode
  |1,hcode=>simp[aY]at hcode
  |i+2,_=>exact⟨i,rfl⟩
 simp only[aY,ae,bu,aG,dF,aR,ev]at hcode
 have hd1:∀t,o1.dst=some t→t<c.params+(fn.ntmps-c.params):=by
  intro t ht;rw[ht]at c6;simpa using c6
 have hd2:∀t,o2.dst=some t→t<c.params+(fn.ntmps-c.params):=by
  intro t ht;rw[ht]at c7;simpa using c7
 have hF1:=hF.put (d:=o1.dst) hd1 (v:=.nili) (u:=.nilIface) .nili;obtain⟨u2,hrun2,hv2⟩:=DA hF1 c5 o2.dst o2.type o2.pos o2.after o2.guard;have hF2:=hF1.put (d:=o2.dst) hd2 hv2;refine callsD_of_wpS hfn hbody (fun c₀ cs hm=>aEL hops' c1 (UT hm) (by simpa using c4) hrun2 ?_);refine(nV hX.ty hX.meth ih hX.mixed ⟨c.params+(fn.ntmps-c.params),[]⟩ (i+1)).1 b pb _ S e fr2 S2 g w _ _ c8 hS hF2 hcode (fun g1 w1 a1 hle hS1 hF3=>?_);obtain⟨u,q1,q2⟩:=rC hS1 hF3 hres hra;have hst:=pG (raw:=c.raw) hS hle hS1 q2
 have hc0:(c₀::cs:List Frame) = {c₀ with mode:=.returning}::cs:=by
  cases c₀;cases hm;rfl
 rw[←hS']at hst;rcases he with rfl|rfl
 ·exact⟨hF3.defers,.returning,hc0,u,q1,rfl,u,_,rfl,hst⟩
 ·exact⟨hF3.defers,.returning,hc0,u,q1,rfl,u,_,rfl,hst⟩
def aEG(hX:dR X):∀k,dV X (bV X.T k)∧aED X (bV X.T k):=by
 intro k
 induction k with
 |zero=>exact⟨fun f args S r S' h=>by simp[bV]at h,fun f c args S r S' _ h=>by simp[bV]at h⟩
 |succ k ihb=>
  obtain⟨ih,ihD⟩:=ihb;refine⟨?_,?_⟩
  rotate_left
  ·intro f c args S r S' hf h g w us u hS hV;simp only[bV,hf]at h;obtain⟨fn,k1,k2⟩:=hX.fns f _ hf;simp only[bF,aJ,bne_iff_ne,ne_eq]at k2;obtain⟨⟨kb,kn⟩,kr⟩:=k2;split at kb
   ·rename_i body hbody;refine⟨mM k1 kn hbody,?_⟩;refine(callsD_of_wp (R:=fun e w'=>∃v,e=.returned v∧dA X g w S' r v w') k1 hbody (UR hX ih kb kr hS hV h (fun u w' hst=>⟨u,rfl,hst⟩))).mono (fun e u' w' hh=>hh)
   ·cases kb
  intro f args S r S' h g w us hS hV o a next Q hn
  simp only[bV]at h
  cases hf:X.T.fn f with
  |none=>rw[hf]at h;cases h
  |some pf=>
   rw[hf]at h;have hfn:=hX.fns f pf hf
   cases pf with
   |code c=>
    obtain⟨fn,k1,k2⟩:=hfn;simp only[bF,aJ,bne_iff_ne,ne_eq]at k2;obtain⟨⟨kb,kn⟩,kr⟩:=k2;simp only at h;split at kb
    ·rename_i body hbody;rw[mM k1 kn hbody,Oper.upon_enter];exact calls_of_wp k1 hbody (UR hX ih kb kr hS hV h (fun u w' hst=>hn u w' hst))
    ·cases kb
   |codeD c=>
    obtain⟨fn,k1,k2⟩:=hfn;simp only[xV,aJ,bne_iff_ne,ne_eq]at k2;obtain⟨⟨⟨kb,kn⟩,kr⟩,krc⟩:=k2;simp only at h;split at kb
    ·rename_i body hbody;split at h
     ·rename_i hargs;split at h
      ·rename_i fr4 S4 hd;split at h
       ·rename_i vs hres;simp only[ap]at h;rw[mM k1 kn hbody,Oper.upon_enter];refine calls_of_wp_defers k1 hbody ?_;have hF:=rD (fn:=fn) hV hargs;unfold lB at hd;split at hd
        ·cases hd
        ·rename_i fr1 S1 hps;split at hd
         ·cases hd
         ·rename_i fr2 S2 hops;split at hd
          ·rename_i cf caps ht
           obtain⟨e,fr3,S3,hr,he,hl⟩:∃(e:Ex) (fr3:Fr) (S3:St),aY X.T (bV X.T k) k c.rest fr2 S2=some (e,fr3,S3)∧(e=.norm∨e=.ret)∧lA X.T (bV X.T k) k c cf caps fr3 S3=some (fr4,S4):=by
            split at hd
            ·rename_i fr3 S3 hr;exact⟨_,fr3,S3,hr,.inl rfl,hd⟩
            ·rename_i fr3 S3 hr;exact⟨_,fr3,S3,hr,.inr rfl,hd⟩
            ·cases hd
           refine aEE hX ih hops ht hr c.pre body g w _ S _ kb hS hF hps (fun g3 w3 a3 us3 hle hS3 hF3 hV3=>?_)
           obtain⟨rfl,q1,q2⟩:fr4=fr3∧(callFunc (X.fnOf cf) us3).run X.P w3=.ok (.enter (X.fnOf cf) us3) w3∧CallsD X.P (X.fnOf cf) us3 .returning w3 (fun e u' w'=>u'=.returning∧∃v r,e=.returned v∧dA X g3 w3 S4 r v w'):=by
            unfold lA at hl;split at hl
            ·split at hl
             ·rename_i hcf;unfold tD at hl;split at hl
              ·rename_i r4 S5 hcall;cases hl
               have hcode:∃c2,X.T.fn cf=some (.code c2):=by
                cases hq:X.T.fn cf with
                |none=>rw[hq]at hcf;cases hcf
                |some pf=>rw[hq]at hcf;cases pf<;>first|exact⟨_,rfl⟩|(cases hcf)
               obtain⟨c2,hc2⟩:=hcode;obtain⟨q1,q2⟩:=ihD cf c2 caps S3 r4 S4 hc2 hcall g3 w3 us3 .returning hS3 hV3;exact⟨rfl,q1,q2.mono fun e' u' w' hh=>by obtain⟨z1,v,z2,z3⟩:=hh;exact⟨z1,v,r4,z2,z3⟩⟩
              ·cases hl
             ·cases hl
            ·rename_i cf' rc hrc;split at hl
             ·rename_i hcf;subst hcf;rw[hrc]at krc;exact aEF hX ih krc hl hS3 hV3
             ·cases hl
           rcases he with rfl|rfl
           all_goals
            show Leaves X.P fn a3.tmps _ a3.defers .returning w3;rw[hF3.defers];refine leaves_cons (by simp) (by simpa[invoke]using q1) (q2.mono fun e' u' w' hh=>?_);obtain⟨rfl,v,r4,rfl,g4,hle4,hS4,hv4⟩:=hh;obtain⟨u,z1,z2⟩:=rC hS4 (hF3.mono hle4) kr hres;have hst:=pG (raw:=c.raw) hS (hle.trans hle4) hS4 z2;rw[h]at hst;exact⟨u,z1,hn u w' hst⟩
          ·cases hd
       ·cases h
      ·cases h
     ·cases h
    ·cases kb
   |indexByte=>
    simp only at h;split at h
    ·rename_i v hv;cases h;have hrun:=hfn us w;unfold RB at hv;split at hv
     ·rename_i s c;cases hv
      have hus:us = #[.string ⟨s.toArray⟩,.int .u8 c]:=by
       have h2:us.size=2:=hV.1.symm;have r0:=hV.2 0 (.str s) us[0] rfl (gE (by omega));have r1:=hV.2 1 (.int .u8 c) us[1] rfl (gE (by omega));generalize h0:us[0]=u0 at r0;generalize h1:us[1]=u1 at r1;cases r0;cases r1;apply xe
       ·simp[h2]
       ·intro i hi1 hi2;simp at hi2
        match i with
        |0=>exact h0
        |1=>exact h1
        |i+2=>omega
      subst hus;rw[hrun]
      have hfind:((List.range (ByteArray.mk s.toArray).size).find? fun i=>(ByteArray.mk s.toArray)[i]! == c.toNat.toUInt8)=(List.range s.length).find? (fun i=>(s.getD i 0)==UInt8.ofNat c.toNat):=by
       have e1:(ByteArray.mk s.toArray).size=s.length:=by simp[ByteArray.size]
       rw[e1]
       have:∀l:List Nat,(∀i∈l,i<s.length)→(l.find? fun i=>(ByteArray.mk s.toArray)[i]! == c.toNat.toUInt8)=l.find? (fun i=>(s.getD i 0)==UInt8.ofNat c.toNat):=by
        intro l
        induction l with
        |nil=>intro _;rfl
        |cons i l ih=>
         intro hl;have hi:=hl i (by simp)
         have e:(ByteArray.mk s.toArray)[i]! = s.getD i 0:=by
          rw[getElem!_pos _ i (by rw[e1];exact hi)];simp[ByteArray.getElem_eq_getElem_data,List.getD_eq_getElem?_getD,hi]
         simp only[List.find?_cons,e,ih (fun j hj=>hl j (by simp[hj]))]
       exact this _ (fun i hi=>List.mem_range.1 hi)
      have hib:Extern.BytealgIndexByte.indexByte #[.string (ByteArray.mk s.toArray),.int .u8 c] =
        (match(List.range (ByteArray.mk s.toArray).size).find? fun i=>(ByteArray.mk s.toArray)[i]! == c.toNat.toUInt8 with|some i=>pure (goInt i)|none=>pure (goInt (-1))):=rfl
      rw[hib,hfind];split
      ·rename_i i hi;simp only[Sem.run_pure,Result.andThen_ok];exact hn _ w ⟨g,Le.refl g w,hS,by rw[hi];exact .int _ _⟩
      ·rename_i hi;simp only[Sem.run_pure,Result.andThen_ok];exact hn _ w ⟨g,Le.refl g w,hS,by rw[hi];exact .int _ _⟩
     ·cases hv
    ·cases h
   |ext e=>
    simp only at h;split at h
    ·rename_i v hv;cases h;exact hfn args r hv g w S us hS hV o a next Q hn
    ·cases h
   |exs e=>
    simp only at h;exact hfn args S r S' h g w us hS hV o a next Q hn
def xW(hX:dR X)(k:Nat):dV X (bV X.T k):=(aEG hX k).1
end
end Ps
namespace Ps
open Go
def jM{α:Type}:List (Nat×α)→Nat→Option α
 | [],_=>none
 |(k,v)::l,n=>if k=n then some v else jM l n
def Cd(l:List (Nat×Nat))(d:Nat)(k:Nat):Nat:=(jM l k).getD d
def tN(l:List (Nat×Nat))(k:Nat):Nat:=match jM l k with|some v=>v|none=>k+1000000
def ST(l:List (Nat×String))(k:Nat):String:=(jM l k).getD "-"
def wW:List (Nat×Nat×Nat)→Nat→Nat→Option Nat
 | [],_,_=>none
 |(t,m,f)::l,a,b=>if t=a∧m=b then some f else wW l a b
def qQ:List (Nat×Nat)→Bool
 | []=>true
 |(_,v)::l=>decide (v<1000000)&&l.all (fun q=>q.2 != v)&&qQ l
theorem qR{α:Type}:∀{l:List (Nat×α)} {k:Nat} {v:α},jM l k=some v→(k,v)∈l
 | [],_,_,h=>by cases h
 |(a,b)::l,k,v,h=>by
  simp only[jM]at h;split at h
  ·rename_i e;cases h;subst e;simp
  ·exact List.mem_cons_of_mem _ (qR h)
theorem Ce:∀{l:List (Nat×Nat)},qQ l=true→∀q∈l,q.2<1000000
 | [],_,q,hq=>by simp at hq
 |(a,b)::l,h,q,hq=>by
  simp only[qQ,aJ,decide_eq_true_eq]at h;rcases dI.1 hq with rfl|hq
  ·exact h.1.1
  ·exact Ce h.2 q hq
theorem SU:∀{l:List (Nat×Nat)},qQ l=true→∀{a b v:Nat},jM l a=some v→jM l b=some v→a=b
 | [],_,a,b,v,h,_=>by cases h
 |(k,x)::l,h,a,b,v,ha,hb=>by
  simp only[qQ,aJ,decide_eq_true_eq,List.all_eq_true,bne_iff_ne,ne_eq]at h;simp only[jM]at ha hb;split at ha
  ·rename_i e;cases ha;split at hb
   ·rename_i e2;omega
   ·exact absurd rfl (h.1.2 (b,x) (qR hb))
  ·split at hb
   ·cases hb;exact absurd rfl (h.1.2 (a,x) (qR ha))
   ·exact SU h.2 ha hb
theorem aB1{l:List (Nat×Nat)}(h:qQ l=true)(a b:Nat)(e:tN l a=tN l b):a=b:=by
 unfold tN at e
 cases ha:jM l a with
 |none=>
  cases hb:jM l b with
  |none=>rw[ha,hb]at e;simp only at e;omega
  |some v=>
   rw[ha,hb]at e;simp only at e;have:=Ce h _ (qR hb)
   simp only at this;omega
 |some u=>
  have hu:=Ce h _ (qR ha)
  cases hb:jM l b with
  |none=>rw[ha,hb]at e;simp only at e hu;omega
  |some v=>
   rw[ha,hb]at e;simp only at e;subst e;exact SU h ha hb
def wX(P:Program)(t:TypeId)(m:String)(f:FuncId):Bool:=
 match P.info? t with
 |some i=>(match i.methods.find? (·.name==m)with
  |some r=>r.path.isEmpty&&(match r.func with
   |some (g,b)=>g==f&&(match P.underlying t with|some (.pointer _)=>b|some _=>!b|none=>false)
   |none=>false)
  |none=>false)
 |none=>false
theorem aB2{P:Program}{t:TypeId}{m:String}{f:FuncId}(h:wX P t m f=true)(n:Nat)(u:Value)(w:World):(Go.method (n+1) t u m).run P w=.ok (f,u) w:=by
 unfold wX at h;split at h
 ·rename_i i hi;split at h
  ·rename_i r hr;simp only[aJ]at h;obtain⟨hp,h⟩:=h;split at h
   ·rename_i gf b hf;simp only[aJ,beq_iff_eq]at h;obtain⟨rfl,h⟩:=h
    have hpath:r.path.toList=[]:=by
     rw[Array.isEmpty_iff]at hp;rw[hp]
    split at h
    ·rename_i e hu;subst h;simp[Go.method,typeInfo,hi,hr,hpath,Go.follow,hf,receiverAt,run_underlying hu,Place.get]
    ·rename_i d hne hu;have hb:b=false:=by simpa using h
     subst hb;simp only[Go.method,typeInfo,Sem.run_bind];simp[hi,hr,hpath,Go.follow,hf,receiverAt,run_underlying hu];cases d<;>first|rfl|(simp[Place.get];done)|exact absurd rfl (hne _)
    ·cases h
   ·cases h
  ·cases h
 ·cases h
theorem SV{P:Program}{ty:Nat→TypeId}{mn:Nat→String}{fnOf:Nat→FuncId}:∀{l:List (Nat×Nat×Nat)},l.all (fun q=>wX P (ty q.1) (mn q.2.1) (fnOf q.2.2))=true →
  ∀(t m f:Nat),wW l t m=some f→wX P (ty t) (mn m) (fnOf f)=true
 | [],_,_,_,_,h=>by cases h
 |(a,b,c)::l,h,t,m,f,e=>by
  simp only[EN,aJ]at h;simp only[wW]at e;split at e
  ·rename_i q;cases e;obtain⟨rfl,rfl⟩:=q;exact h.1
  ·exact SV h.2 t m f e
def qS(w w':World):Prop:=w'.os=w.os∧w'.output=w.output∧w.heap.size≤w'.heap.size∧∀b,b<w.heap.size→w'.heap[b]?=w.heap[b]?
theorem SW{p:Nat→Nat}{g:Gh}{w w':World}(h:Le (cV p) w g w'):qS w w':=
 ⟨h.os,h.output,h.size,fun b hb=>h.keep b hb (fun id e=>absurd e (by simp[cV])) rfl (fun id e=>absurd e (by simp[cV]))⟩
theorem qT{X:Tie}(hX:dR X):dV X (aN X.T):=by
 intro f args S r S' h;obtain⟨k,hk⟩:=lx.1 h;exact xW hX k f args S r S' hk
theorem aB3{X:Tie}(hX:dR X){f:Nat}{fn:Func}(hfn:X.P.funcs[X.fnOf f]?=some fn)(hname:fn.name ≠ "runtime.NumGoroutine") (hbody0:fn.body.isSome=true)
  {args:List PV}{S':St}(h:aN X.T f args cS=some (.bool true,S')){p:Nat→Nat}{w:World}(hp:∀b,w.heap.size≤b→p b=0)(hg:js X (cV p) w){us:Array Value}(hV:bX X (cV p) w args us) :
  Calls X.P (X.fnOf f) us w fun e w'=>e=.returned (.bool true)∧qS w w':=by
 obtain⟨c,hbody⟩:=rS.1 hbody0
 have h1:=qT hX f args cS _ S' h (cV p) w us (wq hp hg) hV (Oper.mk (some 0) (.move (.const undef)) 0 "" #[] none) {tmps:=#[undef],defers:=[]}
  (fun a w'=>a.tmps.getD 0 undef=.bool true∧qS w w') (fun _ _ _=>False) (fun u w' hst=>by
   obtain⟨g',hle,_,hr⟩:=hst;cases hr;exact⟨rfl,SW hle⟩)
 rw[mM hfn hname hbody,Oper.upon_enter]at h1;refine h1.mono fun e w' he=>?_
 cases e with
 |returned v=>exact⟨by rw[show v=.bool true from he.1],he.2⟩
 |panicked ch=>exact absurd he id
 |outgrown=>obtain⟨a,w2,h2⟩:=he;exact absurd h2 id
end Ps
namespace Ps
open Go Go.ChangeShapes Go.WideShapes
variable {H : Type} {enc : TypeId × Value → H} {P : Program}
theorem SX{f:Func}{s:ChangeSpec}{apart fresh handsOn again:Bool}{W W':World}{args:Array Value}{v:Value}{ds gs:List (DataW H)}{before pa pv:List MemPlace}
  (hW:DataW.Whole enc P f.params.toList s.vars apart W args.toList ds gs before)
  (hres:∀(b:Nat)(sp:Nat→Bool)(hd:Bool),DataW.TrodAll enc P W' b sp hd f.resultTypes.toList (v.resultList f.resultTypes.size) (s.fn H (ds++gs)).results [])
  (hargs:∀sp:Nat→Bool,(∀p∈before,sp p.block=true)→DataW.TrodAll enc P W' 0 sp true f.params.toList args.toList (s.fn H (ds++gs)).args pa)
  (hvars:∀sp:Nat→Bool,(∀p∈before,sp p.block=true)→DataW.TrodVars enc P W' sp s.vars (s.fn H (ds++gs)).vars pv)
  (hps:before=pa++pv)(hk:qS W W')
  (hok:∀(j:Nat)(t:TypeId)(r:Value),f.resultTypes[j]?=some t→(v.resultList f.resultTypes.size)[j]?=some r→Value.okWide P W' .any 0 t r) :
  s.post enc P f apart fresh handsOn again W args v W':=by
 have hlt:=hW.lt;have hold:∀p∈before,(fun b=>decide (b<W.heap.size)) p.block=true:=fun p hp=>by simpa using hlt p hp
 have hkb:W.keptBut W' (· ∈ before):=by
  refine⟨hk.1,hk.2.1,fun i hi=>?_⟩;rw[hk.2.2.2 i hi]
  cases h:W.heap[i]? with
  |none=>rfl
  |some o=>cases o<;>first|exact⟨rfl,rfl,rfl,fun _ _=>rfl⟩|exact .inr ⟨rfl,rfl⟩|rfl
 refine⟨ds,gs,before,[],pa,pv,hW,hres _ _ _,hargs _ hold,hvars _ hold,World.keptBut_mono (fun p hp=>⟨hp,?_⟩) hkb,fun _=>?_⟩
 ·rw[hps,bg]at hp;exact Or.inr hp
 ·obtain⟨_,_,_,_,_,hz,hn⟩:=hW;refine⟨hok,_,_,([]++pa)++pv,⟨[]++pa,pv,trodAll_append (hargs _ (fun _ _=>rfl)) (hres _ _ _),hvars _ (fun _ _=>rfl),rfl,?_,?_⟩,?_⟩
  ·intro b off hp;have hb:=hlt (.cell b off) (by rw[hps];simpa using hp)
   have:W'.frozen? ⟨b,off,none⟩=W.frozen? ⟨b,off,none⟩:=by
    simp only[World.frozen?];rw[hk.2.2.2 b (by simpa[MemPlace.block]using hb)]
   rw[this];exact hz b off (by rw[hps];simpa using hp)
  ·intro ha;have:=hn ha;rw[hps]at this;simpa using this
  ·intro p hp _;rw[hps];simpa using hp
end Ps
set_option linter.defProp false
namespace Ps
open Go
section
variable {X : Tie} {g : Gh} {w w' : World} {S : St}
def Sr{f:FuncId}{fn:Func}(hfn:X.P.funcs[f]?=some fn)(hname:fn.name ≠ "runtime.NumGoroutine") (hbody0:fn.body.isSome=true) {us:Array Value} {K:Value→World→Prop}
  (h:Calls X.P f us w fun e w'=>∃v,e=.returned v∧K v w'):ov X f us w K:=by
 obtain⟨c,hbody⟩:=rS.1 hbody0;intro o a next Q hn
 rw[mM hfn hname hbody,Oper.upon_enter];refine h.mono fun e w' he=>?_;obtain⟨v,rfl,hk⟩:=he;exact hn v w' hk
end
end Ps
namespace Ps
open Go Go.RowKit Go.Maps
open Go.Proofs (encStr)
def oa:List PV→Option (List (List UInt8))
 | []=>some []
 |.str k::_::r=>(match oa r with|some l=>some (k::l)|none=>none)
 |_=>none
def aLn:List PV→St→Option (PV×St)
 | [.map id],S=>(match S.objs[id]? with
  |some cs=>some (.map S.objs.length,{S with objs:=S.objs++[cs]})
  |none=>none)
 |_,_=>none
def qO(gk:Nat):List PV→St→Option (PV×St)
 | [.fn f [.ptr i 0]],S=>if f=gk then(match S.objs[i]? with
  |some [.map m]=>(match S.objs[m]? with
   |some cs=>(match oa cs with
    |some ks=>if ks.length≤1048576∧ks.all (fun k=>decide (k.length≤maxLen))=true then
      some (if ks.isEmpty then .nils else .sl none ((ks.mergeSort leB).map .str) [],S)else none
    |none=>none)
   |none=>none)
  |_=>none)else none
 |_,_=>none
section
variable {X : Tie} {g : Gh} {w w' : World} {S : St}
theorem Rg:∀{l:List PV},(∀e∈l,e.cells=[e])→l.flatMap PV.cells=l
 | [],_=>rfl
 |e::l,h=>by rw[dd,h e (by simp),Rg (fun x hx=>h x (by simp[hx]))];rfl
theorem aA4(hS:SR X g S w)(hb:Below w.heap.size w w'){b0 cap:Nat}{us:Array Value}{t:TypeId}{es:List PV}(hge:w.heap.size≤b0)(hblk:w'.heap[b0]?=some (.cells us t (0,0)))
  (hone:∀e∈es,e.cells=[e]∧e.one=true)(hcap:es.length≤cap)(hv:∀(j:Nat)(c:PV),es[j]?=some c→∃u,us[j]?=some u∧VR X g w c u) :
  dA X g w S (.sl none es []) (.slice (some ⟨b0,0,none⟩) es.length cap) w':=by
 have hle0:=nZ hS hb;let g':Gh:={g with pub:=fun b=>if b=b0 then es.length else g.pub b};have hp0:g.pub b0=0:=(hS.lt b0 hge).1;have hnlt:∀b,b<w.heap.size→b≠b0:=fun b h e=>by omega
 have hle:Le g w g' w':={
  os:=hle0.os,tape:=hle0.tape,output:=hle0.output,size:=hle0.size
  obj:=fun _ _ h=>h,arr:=fun _ _ h=>h,asz:=fun _ _ h=>h
  pub:=fun b=>by
   simp only[g'];split
   ·rename_i e;rw[e,hp0];exact cP _
   ·exact aU _
  cell:=hle0.cell
  shape:=hle0.shape
  objN:=fun id _ h=>.inl ⟨id,h⟩,arrN:=fun _ _ h=>.inl h
  keep:=hle0.keep
  pubN:=fun b hb _ _ _=>by simp only[g'];rw[if_neg (hnlt b hb)]
  mp:=fun _ _ h=>h,mpN:=fun _ _ h=>.inl h,mf:=hle0.mf}
 have hS':=tw hS hb
 refine⟨g',hle,⟨fun i b h=>?_,hS.inj,fun i b h=>?_,fun b id base h=>?_,hS.asz,fun b hb'=>?_,
  hS.maps.of (fun _ _ h=>h) (fun _ _ _=>rfl) (fun i b e=>hb.block b (hS.maps.lt e)) (fun c u r=>r.mono hle) (fun i b e=>⟨by simp only[g'];rw[if_neg (hnlt b (hS.maps.lt e))],rfl⟩) (fun _ _ _ _ h=>h),hS.gl.le hle⟩,?_⟩
 ·obtain⟨cs',us',t',h1,h2,h3,h4⟩:=hS.obj i b h;exact⟨cs',us',t',h1,by rw[hb.block b (ju hS i b h)];exact h2,h3,fun j c u e1 e2=>(h4 j c u e1 e2).mono hle⟩
 ·have:=ju hS i b h;exact⟨fun hl=>by simp only[g'];rw[if_neg (hnlt b this)];exact(hS.objpub i b h).1 hl,(hS.objpub i b h).2⟩
 ·have hne:b≠b0:=fun e=>by
   have:=(hS.lt b (by omega)).2;rw[show g.arr b=some (id,base)from h]at this;cases this
  obtain⟨sz',tip,h1,h2,h3,h4⟩:=hS.arr b id base h;exact⟨sz',tip,h1,h2,h3,by simp only[g'];rw[if_neg hne];exact h4⟩
 ·have hlt0:b0<w'.heap.size:=(cO.1 hblk).1;have:=hS.lt b (Nat.le_trans hb.size hb');exact⟨by simp only[g'];rw[if_neg (by omega)];exact this.1,this.2⟩
 ·have hflat:es.flatMap PV.cells=es:=Rg (fun e he=>(hone e he).1);refine .sl none es [] b0 0 cap 1 (fun j=>us.getD j undef) (by simpa using hcap) (by decide) (fun e he=>?_) (by simp[g']) ?_ ?_ ?_ (fun e he=>?_)
  ·rw[eP]at he;rw[(hone e he).1];rfl
  ·intro j hj;simp only[cW,gU,rR]at hj;obtain⟨u,h1,_⟩:=hv j _ (List.getElem?_eq_getElem hj);have hj':j<us.size:=(cO.1 h1).1;simp[World.cell?,hblk,hj',Array.getD]
  ·intro j c hc;rw[eP,hflat]at hc;obtain⟨u,h1,h2⟩:=hv j c hc;have:us.getD j undef=u:=by simp[fh,h1]
   rw[this];exact h2.mono hle
  ·intro i e' ht _;cases ht
  ·rw[eP]at he;rw[(hone e he).1];simp[(hone e he).2]
theorem aA5{a:PV}{us:Array Value}(hV:bX X g w [a] us):∃x,us = #[x]∧VR X g w a x:=by
 have h2:us.size=1:=hV.1.symm;refine⟨us[0],?_,hV.2 0 a us[0] rfl (gE (by omega))⟩;apply xe
 ·simp[h2]
 ·intro i hi1 hi2;simp at hi2
  match i with
  |0=>rfl
theorem aA6{cs:List PV}{es:List MapEntry}(h:MR X g w cs es):∀ks,oa cs=some ks→es.map (·.key)=ks.map encStr:=by
 induction h with
 |nil=>intro ks h;cases h;rfl
 |mark=>intro ks h;simp[oa]at h
 |cons k v cs e es hk hkk hv _ ih=>
  intro ks h;cases k<;>simp only[oa]at h<;>try (cases h;done)
  rename_i s;split at h
  ·rename_i l hl;cases h
   cases e with
   |mk key val born=>
    simp only at hk;cases hk;rw[cb,cb,ih l hl]
  ·cases h
def oc:Value→Option (DataW Unit×List MemPlace):=fun _=>some (.nil,[])
theorem Rh{P:Program}{k:TypeId}(hk:P.underlying k=some .string){e:MapEntry}{s:List UInt8}(he:e.key=encStr s)(hs:s.length≤maxLen):WideElems.rd P k oc e=some (.string s,.nil):=by
 have hz:(ByteArray.mk s.toArray).size=s.length:=by simp[ByteArray.size]
 simp[WideElems.rd,he,encStr,keyOf,hk,mapKey,hs,oc,hz]
theorem aA7{P:Program}{k:TypeId}(hk:P.underlying k=some .string){w:World}{b:Nat}{es:Array MapEntry}{clock:Nat}(hb:w.heap[b]?=some (.map es clock))(hst:MapKept.Stamped es clock)
  {ks:List (List UInt8)}(hks:es.toList.map (·.key)=ks.map encStr)(hlen:ks.length≤1048576)(hall:∀s∈ks,s.length≤maxLen) :
  ∃D:DataW Unit,w.ownsMap P k oc b es.size D∧Maps.size D=ks.length∧(strKeys D).Perm ks:=by
 have hsz:es.size=ks.length:=by
  have:=congrArg List.length hks;simpa using this
 have hmem:∀x∈es.toList,∃s∈ks,x.key=encStr s:=by
  intro x hx;have:x.key∈es.toList.map (·.key):=List.mem_map.2 ⟨x,hx,rfl⟩;rw[hks]at this;obtain⟨s,h1,h2⟩:=List.mem_map.1 this;exact⟨s,h1,h2.symm⟩
 have hrg:es.toList.map (WideElems.rg P k oc)=ks.map fun s=>((.string s:Lit),(.nil:DataW Unit)):=by
  have:∀(l:List MapEntry) (ks:List (List UInt8)),l.map (·.key)=ks.map encStr→(∀s∈ks,s.length≤maxLen)→l.map (WideElems.rg P k oc)=ks.map fun s=>((.string s:Lit),(.nil:DataW Unit)):=by
   intro l
   induction l with
   |nil=>intro ks h _;cases ks with
    |nil=>rfl
    |cons=>simp at h
   |cons x l ih=>
    intro ks h ha
    cases ks with
    |nil=>simp at h
    |cons s ks=>
     simp only[cb,nk]at h;rw[cb,cb,ih ks h.2 (fun s hs=>ha s (by simp[hs]))];rw[WideElems.rg_of (Rh hk h.1 (ha s (by simp)))]
  exact this _ _ hks hall
 refine⟨_,⟨es,clock,hb,⟨?_,hst,fun x hx=>?_⟩,aU _,rfl⟩,?_,?_⟩
 ·rw[hsz];exact Nat.le_trans hlen (by decide)
 ·obtain⟨s,h1,h2⟩:=hmem x hx;exact⟨_,Rh hk h2 (hall s h1)⟩
 ·rw[hrg,Maps.size];rw[(WideShapes.sorted_perm _).length_eq];simp
 ·rw[hrg];simp only[strKeys];have:=(WideShapes.sorted_perm (ks.map fun s=>((.string s:Lit),(.nil:DataW Unit)))).map (fun p=>strOf p.1);refine this.trans ?_;rw[pT];have:((fun p:Lit×DataW Unit=>strOf p.1)∘fun s=>((.string s:Lit),(.nil:DataW Unit)))=id:=rfl;rw[this,rP]
theorem aA8{f gk:Nat}{fn:Func}{k:TypeId}(hk:X.P.underlying k=some .string)(hfn:X.P.funcs[X.fnOf f]?=some fn)(hname:fn.name ≠ "runtime.NumGoroutine") (hbody:fn.body.isSome=true)
  (hsorted:∀(bx b nn:Nat)(D0:DataW Unit)(w:World),bx<w.heap.size→w.cell? ⟨bx,0,none⟩=some (.map (some b))→w.ownsMap X.P k oc b nn D0→Maps.size D0≤1048576 →
   Calls X.P (X.fnOf f) #[.func (.func (X.fnOf gk)) #[] #[.pointer (some ⟨bx,0,none⟩)]] w fun e w'=>∃(v:Value) (ss:List (List UInt8)),e=.returned v∧ss.Perm (strKeys D0) ∧
    w'.ownsRow w.heap.size k 1 v ss.length ((ss.mergeSort (fun x y=>decide (x≤y))).map encStr)∧(v=.slice none 0 0↔ss=[])∧Below w.heap.size w w') :
  rB X f (qO gk):=by
 intro args S r S' h g w us hS hV;unfold qO at h;split at h
 ·rename_i f' i;split at h
  ·rename_i hf;subst hf;split at h
   ·rename_i m hbox;split at h
    ·rename_i cs hcs;split at h
     ·rename_i ks hks;split at h
      ·rename_i hb;obtain⟨hlen,hall⟩:=hb;have hall:∀s∈ks,s.length≤maxLen:=fun s hs=>by simpa using List.all_eq_true.1 hall s hs
       cases h;obtain⟨x,rfl,hx⟩:=aA5 hV;cases hx;rename_i cus hcl hcv;have hcl:cus.size=1:=hcl.symm;have hp:=hcv 0 _ cus[0] rfl (gE (by omega))
       have hcus:cus = #[cus[0]]:=by
        apply xe
        ·simp[hcl]
        ·intro j h1 h2;simp at h2;subst h2;rfl
       generalize cus[0]=p at hp hcus;subst hcus;cases hp;rename_i bx hbx _;obtain⟨cs1,us1,t1,k1,k2,k3,k4⟩:=hS.obj _ _ hbx;rw[hbox]at k1;cases k1;have k3:0<us1.size:=k3;have hm:=k4 0 _ us1[0] rfl (gE (by omega));have hcell:w.cell? ⟨bx,0,none⟩=some us1[0]:=by simp[World.cell?,k2,k3]
       generalize us1[0]=um at hm hcell;cases hm;rename_i b hb;obtain⟨cs',es,clock,h1,h2,h3,h4⟩:=hS.maps.ent m b hb;rw[hcs]at h1;cases h1;obtain⟨D,d1,d2,d3⟩:=aA7 (P:=X.P) (k:=k) hk h2 h3 (aA6 h4 ks hks) hlen hall;refine Sr hfn hname hbody ((hsorted bx b _ D w (cO.1 k2).1 hcell d1 (by rw[d2];exact hlen)).mono fun e w' he=>?_);obtain⟨v,ss,rfl,e1,e2,e3,e4⟩:=he;have hperm:ss.Perm ks:=e1.trans d3;have hms:ss.mergeSort (fun x y=>decide (x≤y))=ks.mergeSort leB:=mergeSort_of_perm hperm;refine⟨v,rfl,?_⟩;rw[hms]at e2
       cases ks with
       |nil=>
        have:ss=[]:=List.Perm.eq_nil hperm;rw[e3.2 this]
        exact⟨g,nZ hS e4,tw hS e4,.nils⟩
       |cons k0 kr=>
        have hsne:ss≠[]:=fun e=>by rw[e]at hperm;have:=hperm.length_eq;simp at this
        have hlen2:ss.length=(((k0::kr).mergeSort leB).map PV.str).length:=by rw[bz,EZ,hperm.length_eq]
        rcases e2.2 with⟨n1,_⟩|⟨g0,cap,cur,rfl,q1,q2,q3,q4,q5,q6⟩
        ·exact absurd (e3.1 n1) hsne
        ·rw[hlen2];rw[hlen2]at q3 q6;simp only[uN,cH,if_false];refine aA4 hS e4 q1 q2 (fun e he=>?_) q3 (fun j c hc=>?_)
         ·obtain⟨s,_,rfl⟩:=List.mem_map.1 he;exact⟨rfl,rfl⟩
         ·rw[iv]at hc
          cases hs:((k0::kr).mergeSort leB)[j]? with
          |none=>rw[hs]at hc;cases hc
          |some s=>
           rw[hs]at hc;cases hc;refine⟨encStr s,?_,.str s⟩;have hjl:j<((k0::kr).mergeSort leB).length:=(aM.1 hs).1;have:(cur.toList.take ((((k0::kr).mergeSort leB).map PV.str).length*1))[j]?=some (encStr s):=by rw[q6,iv,hs];rfl
           rw[dH (by simpa using hjl)]at this;simpa using this
      ·cases h
     ·cases h
    ·cases h
   ·cases h
  ·cases h
 ·cases h
end
end Ps
