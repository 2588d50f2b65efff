/- Calls: the pure semantics is sound. -/
import Derived.Test.YtpjmpaidcidjgaaGreatDoorAbbKt
import Derived.Test.YtpjmpaidcidjgaaGreatDoorSimRKt
import GoSem.Extern.BytealgIndexByte
import Derived.Defers
set_option linter.defProp false
namespace Ps
open Go
def fG(X:Tie):List ResultVar→List kY→Bool
 | [],[]=>true
 |.tmp t::l,.tmp s::m=>t==s&&fG X l m
 |.cell t ty::l,.cell s ag n::m=>t==s&&gR X.P ty ag n&&fG X l m
 |_,_=>false
def ah(X:Tie)(fn:Func)(c:aT):Bool:=
 (match fn.body with|some b=>bw X (c.params+(fn.ntmps-c.params)) b c.body|none=>false)&&fn.name != "runtime.NumGoroutine" && fG X fn.results.toList c.results
def lI(X:Tie)(n:Nat)(f:dg):Code→List aN→Bool
 |.seq a b,p::ps=>bw X n a p&&lI X n f b ps
 |.seq (.region _ ops false) b,[]=>(match ops.toList with
  | [o1,o2]=>dL X n ops o1 f.clo&&f.clo.dst==some f.t&&(match o2.op with
   |.defer c=>(match c.callee with|.value (.tmp t)=>t==f.t&&c.args.size==0|_=>false)
   |_=>false)&&o2.dst==none&&o2.guard==none
  |_=>false)&&bw X n b f.rest
 |_,_=>false
def oA(X:Tie)(cf:Nat)(c:aT):Bool:=
 match X.P.funcs[X.fnOf cf]? with
 |some fn=>fn.name != "runtime.NumGoroutine" && fG X fn.results.toList c.results&&(match fn.body with
  |some (.seq (.region _ ops false) b)=>(match c.body with
   |.seq (.region [⟨d1,.mov (.cst .nili),none⟩,⟨d2,.mov y,none⟩]) pb=>(match ops.toList with
    | [o1,o2]=>qJ o1&&o1.dst==d1&&o2.dst==d2&&o2.guard.isNone&&rJ X y o2.op&&(match d1 with|some t=>decide (t<c.params+(fn.ntmps-c.params))|none=>true) &&
     (match d2 with|some t=>decide (t<c.params+(fn.ntmps-c.params))|none=>true)&&bw X (c.params+(fn.ntmps-c.params)) b pb
    |_=>false)
   |_=>false)
  |_=>false)
 |none=>false
def tE(X:Tie)(fn:Func)(c:dg):Bool:=
 (match fn.body with|some b=>lI X (c.params+(fn.ntmps-c.params)) c b c.pre|none=>false)&&fn.name != "runtime.NumGoroutine" && fG X fn.results.toList c.results&&(match c.rcl with|none=>true|some (cf,r)=>oA X cf r)
def oB(X:Tie)(f:Nat)(e:List PV→St→Option (PV×St)):Prop:=
 ∀(args:List PV) (S:St) (r:PV) (S':St),e args S=some (r,S')→∀(g:Gh) (w:World) (us:Array Value),SR X g S w→bD X g w args us→mP X (X.fnOf f) us w (fun u w'=>bu X g w S' r u w')
def Za(X:Tie)(f:Nat)(e:List PV→Option PV):Prop:=
 ∀(args:List PV) (r:PV),e args=some r→∀(g:Gh) (w:World) (S:St) (us:Array Value),SR X g S w→bD X g w args us→mP X (X.fnOf f) us w (fun u w'=>bu X g w S r u w')
def ai(X:Tie)(f:Nat):nK→Prop
 |.code c=>∃fn,X.P.funcs[X.fnOf f]?=some fn∧ah X fn c=true
 |.indexByte=>∀(us:Array Value) (w:World),(callFunc (X.fnOf f) us).run X.P w=((Extern.BytealgIndexByte.indexByte us).run X.P w).andThen fun v w=>.ok (.value v) w
 |.codeD c=>∃fn,X.P.funcs[X.fnOf f]?=some fn∧tE X fn c=true
 |.ext e=>Za X f e
 |.exs e=>oB X f e
structure bY(X:Tie):Prop where
 ty:dv X
 meth:eC X
 mixed:X.P.follows .mixedOrders=true
 fns:∀f pf,X.T.fn f=some pf→ai X f pf
section
variable {X : Tie} {g : Gh} {w : World}
def mc(tmps:Array Value):ResultVar→Sem Value
 |.tmp t=>pure (tmps.getD t undef)
 |.cell a t=>do loadVar t (←asAddr (tmps.getD a undef))
theorem yc{n:Dn}{fr:Fr}{a:Act}{S:St}(hS:SR X g S w)(hF:FR X n g w fr a):∀{rs:List ResultVar} {ps:List kY} {vs:List PV},fG X rs ps=true→bb fr S ps=some vs →
  ∃us:List Value,(rs.mapM (mc a.tmps)).run X.P w=.ok us w∧vs.length=us.length∧∀(j:Nat) (c:PV) (u:Value),vs[j]?=some c→us[j]?=some u→VR X g w c u
 | [],[],vs,_,h=>by cases h;exact⟨[],by simp,rfl,fun j c u e=>by simp at e⟩
 |.tmp t::rs,.tmp s::ps,vs,hc,h=>by
  simp only[fG,aI,beq_iff_eq]at hc;obtain⟨rfl,hc⟩:=hc;simp only[bb,hI]at h
  cases hr:bb fr S ps with
  |none=>rw[hr]at h;cases h
  |some vs'=>
   rw[hr]at h;cases h;obtain⟨us,h1,h2,h3⟩:=yc hS hF hc hr;refine⟨a.tmps.getD t undef::us,by simp[mc,h1],by simp[h2],fun j c u e1 e2=>?_⟩
   cases j with
   |zero=>simp only[ik,ae]at e1 e2;subst e1;subst e2;exact hF.at_ t
   |succ j=>exact h3 j c u (by simpa using e1) (by simpa using e2)
 |.cell t ty::rs,.cell s ag m::ps,vs,hc,h=>by
  simp only[fG,aI,beq_iff_eq]at hc;obtain⟨⟨rfl,hty⟩,hc⟩:=hc;simp only[bb]at h
  cases ho:hI fr S (.cell t ag m)with
  |none=>rw[ho]at h;cases h
  |some v=>
   rw[ho]at h
   cases hr:bb fr S ps with
   |none=>rw[hr]at h;cases h
   |some vs'=>
    rw[hr]at h;cases h;obtain⟨us,h1,h2,h3⟩:=yc hS hF hc hr;have r:=hF.at_ t
    have hone:∃u,(mc a.tmps (.cell t ty)).run X.P w=.ok u w∧VR X g w v u:=by
     simp only[hI]at ho;split at ho
     ·rename_i cs e;rw[e]at r;obtain⟨b,o,k1,k2,k3⟩:=sN r;obtain⟨u,q1,q2⟩:=sM hty ho k2;exact⟨u,by simp only[mc,k1,asAddr,Sem.run_bind,Sem.run_pure,Result.andThen_ok,q1],q2⟩
     ·rename_i id off e;rw[e]at r;split at ho
      ·rename_i cs hcs;generalize hu:a.tmps.getD t undef=u at r
       cases r with
       |ptr _ _ b hb=>
        have hcc:=(mN hS hb hcs).drop off;rw[cd]at hcc;obtain⟨u,q1,q2⟩:=sM hty ho hcc;exact⟨u,by simp only[mc,hu,asAddr,Sem.run_bind,Sem.run_pure,Result.andThen_ok,q1],q2⟩
      ·cases ho
     ·cases ho
    obtain⟨u,k1,k2⟩:=hone;refine⟨u::us,by simp[k1,h1],by simp[h2],fun j c x e1 e2=>?_⟩
    cases j with
    |zero=>simp only[ik,ae]at e1 e2;subst e1;subst e2;exact k2
    |succ j=>exact h3 j c x (by simpa using e1) (by simpa using e2)
 | [],_::_,_,hc,_=>by simp[fG]at hc
 |.tmp _::_,[],_,hc,_=>by simp[fG]at hc
 |.cell _ _::_,[],_,hc,_=>by simp[fG]at hc
 |.tmp _::_,.cell _ _ _::_,_,hc,_=>by simp[fG]at hc
 |.cell _ _::_,.tmp _::_,_,hc,_=>by simp[fG]at hc
def oC{n:Dn}{fr:Fr}{a:Act}{S:St}(hS:SR X g S w)(hF:FR X n g w fr a){fn:Func}{ps:List kY}{vs:List PV}(hc:fG X fn.results.toList ps=true)(h:bb fr S ps=some vs) :
  ∃u,(results fn a.tmps).run X.P w=.ok u w∧VR X g w (bP vs) u:=by
 obtain⟨us,h1,h2,h3⟩:=yc hS hF hc h
 have hm:(fn.results.mapM (mc a.tmps)).run X.P w=.ok us.toArray w:=by
  rw[Array.mapM_eq_mapM_toList];simp[h1]
 have hr:(results fn a.tmps)=(do let vs ←fn.results.mapM (mc a.tmps);pure (if h:vs.size=1 then vs[0]else .tuple vs)):=by
  unfold results
  congr 1
 rw[hr];simp only[Sem.run_bind,hm,Result.andThen_ok,Sem.run_pure];refine⟨_,rfl,?_⟩
 match vs,us,h2,h3 with
 | [],[],_,_=>exact .tup [] #[] rfl (fun j c u e=>by simp at e)
 | [v],[u],_,h3=>exact h3 0 v u rfl rfl
 |v::v'::vs,u::u'::us,h2,h3=>
  simp only[bP];rw[dif_neg (by simp)];exact .tup _ _ (by simpa using h2) (fun j c x e1 e2=>h3 j c x e1 (by simpa using e2))
def iW{P:Program}{f:FuncId}{fn:Func}{us:Array Value}{w:World}(hf:P.funcs[f]?=some fn)(hn:fn.name ≠ "runtime.NumGoroutine") {c:Code} (hb:fn.body=some c) :
  (callFunc f us).run P w=.ok (.enter f us) w:=by
 simp[callFunc,hf,hn,hb]
def Zb(X:Tie)(call:aX):Prop:=
 ∀(f:Nat) (c:aT) (args:List PV) (S:St) (r:PV) (S':St),X.T.fn f=some (.code c)→call f args S=some (r,S')→∀(g:Gh) (w:World) (us:Array Value) (u:FrameMode),SR X g S w→bD X g w args us →
  (callFunc (X.fnOf f) us).run X.P w=.ok (.enter (X.fnOf f) us) w∧CallsD X.P (X.fnOf f) us u w (fun e u' w'=>u'=u∧∃v,e=.returned v∧bu X g w S' r v w')
def oD {fn:Func} {params:Nat} {args:List PV} {us:Array Value} (hV:bD X g w args us) (hargs:args.length=params):FR X ⟨params+(fn.ntmps-params),[]⟩ g w (bX args) {tmps:=us++Array.replicate (fn.ntmps-us.size) undef,defers:=[]}:=by
 have hsz:us.size=params:=by rw[←hV.1,hargs]
 refine⟨by simp[hsz],fun t=>?_,rfl⟩;simp only[bX]
 cases ht:args[t]? with
 |none=>exact .und _
 |some v=>
  have hlt:t<us.size:=by rw[←hV.1];exact(aL.1 ht).1
  simp only[uB,eG];rw[gc hlt,dy hlt];exact hV.2 t v _ ht (dy hlt)
def yd(hX:bY X){k:Nat}(ih:cW X (ax X.T k)){c:aT}{fn:Func}{body:Code}(kb:bw X (c.params+(fn.ntmps-c.params)) body c.body=true)(kr:fG X fn.results.toList c.results=true)
  {args:List PV}{S S':St}{r:PV}{us:Array Value}(hS:SR X g S w)(hV:bD X g w args us)
  (h:(if args.length=c.params then
    match aU X.T (ax X.T k) k c.body (bX args) S with
    |some (.norm,fr,S')=>(match bb fr S' c.results with|some vs=>some (ac c.raw S S' (bP vs))|none=>none)
    |some (.ret,fr,S')=>(match bb fr S' c.results with|some vs=>some (ac c.raw S S' (bP vs))|none=>none)
    |_=>none
   else none)=some (r,S'))
  {R:Ending→World→Prop} (hn:∀u w',bu X g w S' r u w'→R (.returned u) w'):body.wp X.P (bodyPost X.P fn R) {tmps:=us++Array.replicate (fn.ntmps-us.size) undef,defers:=[]} w:=by
 split at h
 ·rename_i hargs;have hF:=oD (fn:=fn) hV hargs
  have fin:∀(e:Ex) (fr':Fr) (S1:St) (vs:List PV),aU X.T (ax X.T k) k c.body (bX args) S=some (e,fr',S1)→(e=.norm∨e=.ret)→bb fr' S1 c.results=some vs →
    ac c.raw S S1 (bP vs)=(r,S')→body.wp X.P (bodyPost X.P fn R) {tmps:=us++Array.replicate (fn.ntmps-us.size) undef,defers:=[]} w:=by
   intro e fr' S1 vs hc he hr hfin;refine(lH hX.ty hX.meth ih hX.mixed ⟨c.params+(fn.ntmps-c.params),[]⟩ k).1 body c.body (bX args) S e fr' S1 g w _ _ kb hS hF hc (fun g1 w1 a1 hle hS1 hF1=>?_);obtain⟨u,q1,q2⟩:=oC hS1 hF1 kr hr;have hst:=ma (raw:=c.raw) hS hle hS1 q2;rw[hfin]at hst;rcases he with rfl|rfl
   ·exact⟨hF1.defers,u,q1,hn u w1 hst⟩
   ·exact⟨hF1.defers,u,q1,hn u w1 hst⟩
  split at h
  ·rename_i fr' S1 hc;split at h
   ·rename_i vs hr;simp only[ae]at h;exact fin _ fr' S1 vs hc (.inl rfl) hr h
   ·cases h
  ·rename_i fr' S1 hc;split at h
   ·rename_i vs hr;simp only[ae]at h;exact fin _ fr' S1 vs hc (.inr rfl) hr h
   ·cases h
  ·cases h
 ·cases h
def Zc(hX:bY X){k:Nat}(ih:cW X (ax X.T k)){f:dg}{n:Nat}{Q:Exit→Act→World→Prop}{fr1 fr2 fr3:Fr}{S1 S2 S3:St}{e:Ex}{cf:Nat}{caps:List PV}
  (ho:aY X.T (ax X.T k) [f.clo] fr1 S1=some (fr2,S2))(ht:fr2 f.t=.fn cf caps)(hr:aU X.T (ax X.T k) k f.rest fr2 S2=some (e,fr3,S3)) :
  ∀(ps:List aN) (c:Code) (g:Gh) (w:World) (fr:Fr) (S:St) (a:Act),lI X n f c ps=true→SR X g S w→FR X ⟨n,[]⟩ g w fr a→jG X.T (ax X.T k) k ps fr S=some (fr1,S1) →
  (∀g3 w3 a3 us,Le g w g3 w3→SR X g3 S3 w3→FR X ⟨n,[⟨.fn (.func (X.fnOf cf)) us,#[]⟩]⟩ g3 w3 fr3 a3→bD X g3 w3 caps us→Q (nz e) a3 w3)→c.wp X.P Q a w:=by
 intro ps
 induction ps with
 |nil=>
  intro c g w fr S a hc hS hF hp hQ;cases hp;cases c<;>try (simp[lI]at hc;done)
  rename_i x b;cases x<;>try (simp[lI]at hc;done)
  rename_i id ops draw;cases draw<;>try (simp[lI]at hc;done)
  simp only[lI]at hc;rw[aI]at hc;obtain⟨hc,hb⟩:=hc;split at hc
  ·rename_i o1 o2 hops;simp only[aI,beq_iff_eq]at hc;obtain⟨⟨⟨⟨c1,c2⟩,c3⟩,c4⟩,c5⟩:=hc;refine wp_seq (wp_region_list ?_);rw[hops]
   have hone:=kA hX.ty hX.meth ih (Q:=Exit.then (b.wp X.P Q) Q) c1 hS hF ho (K:=wpList X.P ops (Exit.then (b.wp X.P Q) Q) [o2]) (fun g1 w1 a1 fr' S' hle hS1 hF1 hl=>by
    cases hl;have hwant:Region.wanted o2 (yielded ops a1.tmps)=true:=by simp[Region.wanted,c5]
    simp only[wpList,hwant,if_true];refine .inl ?_;obtain⟨dst,op,ty,pos,after,guard⟩:=o2;simp only at c3 c4;subst c4;cases op<;>simp only at c3<;>try (cases c3;done)
    rename_i cl;split at c3
    ·rename_i t hcal;simp only[aI,beq_iff_eq]at c3;obtain⟨rfl,c6⟩:=c3;have hv:=hF1.at_ f.t;rw[ht]at hv;generalize hu:a1.tmps.getD f.t undef=u at hv
     cases hv with
     |fn _ _ us hl hvs=>
      have hargs:cl.args = #[]:=qY c6
      have hrun:(execOp a1.eval ⟨none,.defer cl,ty,pos,after,guard⟩).run X.P w1=.ok (.defer ⟨.fn (.func (X.fnOf cf)) us,#[]⟩) w1:=by
       have he:a1.eval (.tmp f.t)=.func (.func (X.fnOf cf)) #[] us:=hu;simp[execOp,resolve,hcal,hargs,he,Deferred.ofValue]
      unfold Oper.wp;rw[hrun,Oper.upon_defer];refine(lH hX.ty hX.meth ih hX.mixed ⟨n,[⟨.fn (.func (X.fnOf cf)) us,#[]⟩]⟩ k).1 b f.rest fr2 S2 e fr3 S3 g1 w1 _ _ hb hS1 ⟨hF1.size,hF1.at_,by simp[Act.put,hF1.defers]⟩ hr (fun g3 w3 a3 hle3 hS3 hF3=>?_);exact hQ g3 w3 a3 us (hle.trans hle3) hS3 hF3 ⟨hl,fun j c u e1 e2=>(hvs j c u e1 e2).mono hle3⟩
    ·cases c3)
   simp only[wpList];split
   ·rename_i hw;rw[if_pos hw]at hone;exact .inl hone
   ·rename_i hw;rw[if_neg hw]at hone;exact hone
  ·cases hc
 |cons p ps ihp=>
  intro c g w fr S a hc hS hF hp hQ;cases c<;>simp only[lI]at hc<;>try (cases hc;done)
  rename_i x b;rw[aI]at hc;simp only[jG]at hp;split at hp
  ·rename_i fr' S' hpc;refine wp_seq ((lH hX.ty hX.meth ih hX.mixed ⟨n,[]⟩ k).1 x p fr S .norm fr' S' g w a _ hc.1 hS hF hpc (fun g1 w1 a1 hle hS1 hF1=>?_));exact ihp b g1 w1 fr' S' a1 hc.2 hS1 hF1 hp (fun g3 w3 a3 us hle3=>hQ g3 w3 a3 us (hle.trans hle3))
  ·cases hp
def Zd(hX:bY X){k:Nat}(ih:cW X (ax X.T k)){cf:Nat}{c:aT}(hc:oA X cf c=true){caps:List PV}{S S':St}{fr fr':Fr}{us:Array Value}
  (h:ke X.T (ax X.T k) k c caps fr S=some (fr',S'))(hS:SR X g S w)(hV:bD X g w caps us) :
  fr'=fr∧(callFunc (X.fnOf cf) us).run X.P w=.ok (.enter (X.fnOf cf) us) w∧CallsD X.P (X.fnOf cf) us .returning w (fun e u' w'=>u'=.returning∧∃v r,e=.returned v∧bu X g w S' r v w'):=by
 unfold oA at hc;split at hc
 rotate_left
 ·cases hc
 rename_i fn hfn;simp only[aI,bne_iff_ne,ne_eq]at hc;obtain⟨⟨hn,hres⟩,hc⟩:=hc;split at hc
 rotate_left
 ·cases hc
 rename_i id ops b hbody;split at hc
 rotate_left
 ·cases hc
 rename_i d1 d2 y pb hpb;split at hc
 rotate_left
 ·cases hc
 rename_i o1 o2 hops;simp only[aI,beq_iff_eq]at hc;obtain⟨⟨⟨⟨⟨⟨⟨c1,rfl⟩,rfl⟩,c4⟩,c5⟩,c6⟩,c7⟩,c8⟩:=hc;have hops':ops = #[o1,o2]:=by have:=congrArg List.toArray hops;simpa using this
 unfold ke at h;split at h
 rotate_left
 ·cases h
 rename_i hargs;have hF:=oD (fn:=fn) hV hargs
 obtain⟨e,fr2,S2,vs,hcode,he,hra,hfr,hS'⟩:∃(e:Ex) (fr2:Fr) (S2:St) (vs:List PV),aU X.T (ax X.T k) k c.body (bX caps) S=some (e,fr2,S2)∧(e=.norm∨e=.ret) ∧
   bb fr2 S2 c.results=some vs∧fr'=fr∧S'=(ac c.raw S S2 (bP vs)).2:=by
  split at h
  ·rename_i fr2 S2 hc2;split at h
   ·rename_i vs hv;cases h;exact⟨_,_,_,_,hc2,.inl rfl,hv,rfl,rfl⟩
   ·cases h
  ·rename_i fr2 S2 hc2;split at h
   ·rename_i vs hv;cases h;exact⟨_,_,_,_,hc2,.inr rfl,hv,rfl,rfl⟩
   ·cases h
  ·cases h
 refine⟨hfr,iW hfn hn hbody,?_⟩;rw[hpb]at hcode
 obtain⟨i,rfl⟩:∃i,k=i+2:=by
  match k,hcode with
  |0,hcode=>simp[aU]at hcode
  |1,hcode=>simp[aU]at hcode
  |i+2,_=>exact⟨i,rfl⟩
 simp only[aU,aY,bW,aH,ck,aQ,ev]at hcode
 have hd1:∀t,o1.dst=some t→t<c.params+(fn.ntmps-c.params):=by
  intro t ht;rw[ht]at c6;simpa using c6
 have hd2:∀t,o2.dst=some t→t<c.params+(fn.ntmps-c.params):=by
  intro t ht;rw[ht]at c7;simpa using c7
 have hF1:=hF.put (d:=o1.dst) hd1 (v:=.nili) (u:=.nilIface) .nili;obtain⟨u2,hrun2,hv2⟩:=xu hF1 c5 o2.dst o2.type o2.pos o2.after o2.guard;have hF2:=hF1.put (d:=o2.dst) hd2 hv2;refine callsD_of_wpS hfn hbody (fun c₀ cs hm=>Zj hops' c1 (PO hm) (by simpa using c4) hrun2 ?_);refine(lH hX.ty hX.meth ih hX.mixed ⟨c.params+(fn.ntmps-c.params),[]⟩ (i+1)).1 b pb _ S e fr2 S2 g w _ _ c8 hS hF2 hcode (fun g1 w1 a1 hle hS1 hF3=>?_);obtain⟨u,q1,q2⟩:=oC hS1 hF3 hres hra;have hst:=ma (raw:=c.raw) hS hle hS1 q2
 have hc0:(c₀::cs:List Frame) = {c₀ with mode:=.returning}::cs:=by
  cases c₀;cases hm;rfl
 rw[←hS']at hst;rcases he with rfl|rfl
 ·exact⟨hF3.defers,.returning,hc0,u,q1,rfl,u,_,rfl,hst⟩
 ·exact⟨hF3.defers,.returning,hc0,u,q1,rfl,u,_,rfl,hst⟩
def Ze(hX:bY X):∀k,cW X (ax X.T k)∧Zb X (ax X.T k):=by
 intro k
 induction k with
 |zero=>exact⟨fun f args S r S' h=>by simp[ax]at h,fun f c args S r S' _ h=>by simp[ax]at h⟩
 |succ k ihb=>
  obtain⟨ih,ihD⟩:=ihb;refine⟨?_,?_⟩
  rotate_left
  ·intro f c args S r S' hf h g w us u hS hV;simp only[ax,hf]at h;obtain⟨fn,k1,k2⟩:=hX.fns f _ hf;simp only[ah,aI,bne_iff_ne,ne_eq]at k2;obtain⟨⟨kb,kn⟩,kr⟩:=k2;split at kb
   ·rename_i body hbody;refine⟨iW k1 kn hbody,?_⟩;refine(callsD_of_wp (R:=fun e w'=>∃v,e=.returned v∧bu X g w S' r v w') k1 hbody (yd hX ih kb kr hS hV h (fun u w' hst=>⟨u,rfl,hst⟩))).mono (fun e u' w' hh=>hh)
   ·cases kb
  intro f args S r S' h g w us hS hV o a next Q hn
  simp only[ax]at h
  cases hf:X.T.fn f with
  |none=>rw[hf]at h;cases h
  |some pf=>
   rw[hf]at h;have hfn:=hX.fns f pf hf
   cases pf with
   |code c=>
    obtain⟨fn,k1,k2⟩:=hfn;simp only[ah,aI,bne_iff_ne,ne_eq]at k2;obtain⟨⟨kb,kn⟩,kr⟩:=k2;simp only at h;split at kb
    ·rename_i body hbody;rw[iW k1 kn hbody,Oper.upon_enter];exact calls_of_wp k1 hbody (yd hX ih kb kr hS hV h (fun u w' hst=>hn u w' hst))
    ·cases kb
   |codeD c=>
    obtain⟨fn,k1,k2⟩:=hfn;simp only[tE,aI,bne_iff_ne,ne_eq]at k2;obtain⟨⟨⟨kb,kn⟩,kr⟩,krc⟩:=k2;simp only at h;split at kb
    ·rename_i body hbody;split at h
     ·rename_i hargs;split at h
      ·rename_i fr4 S4 hd;split at h
       ·rename_i vs hres;simp only[ae]at h;rw[iW k1 kn hbody,Oper.upon_enter];refine calls_of_wp_defers k1 hbody ?_;have hF:=oD (fn:=fn) hV hargs;unfold jI at hd;split at hd
        ·cases hd
        ·rename_i fr1 S1 hps;split at hd
         ·cases hd
         ·rename_i fr2 S2 hops;split at hd
          ·rename_i cf caps ht
           obtain⟨e,fr3,S3,hr,he,hl⟩:∃(e:Ex) (fr3:Fr) (S3:St),aU X.T (ax X.T k) k c.rest fr2 S2=some (e,fr3,S3)∧(e=.norm∨e=.ret)∧jH X.T (ax X.T k) k c cf caps fr3 S3=some (fr4,S4):=by
            split at hd
            ·rename_i fr3 S3 hr;exact⟨_,fr3,S3,hr,.inl rfl,hd⟩
            ·rename_i fr3 S3 hr;exact⟨_,fr3,S3,hr,.inr rfl,hd⟩
            ·cases hd
           refine Zc hX ih hops ht hr c.pre body g w _ S _ kb hS hF hps (fun g3 w3 a3 us3 hle hS3 hF3 hV3=>?_)
           obtain⟨rfl,q1,q2⟩:fr4=fr3∧(callFunc (X.fnOf cf) us3).run X.P w3=.ok (.enter (X.fnOf cf) us3) w3∧CallsD X.P (X.fnOf cf) us3 .returning w3 (fun e u' w'=>u'=.returning∧∃v r,e=.returned v∧bu X g3 w3 S4 r v w'):=by
            unfold jH at hl;split at hl
            ·split at hl
             ·rename_i hcf;unfold pO at hl;split at hl
              ·rename_i r4 S5 hcall;cases hl
               have hcode:∃c2,X.T.fn cf=some (.code c2):=by
                cases hq:X.T.fn cf with
                |none=>rw[hq]at hcf;cases hcf
                |some pf=>rw[hq]at hcf;cases pf<;>first|exact⟨_,rfl⟩|(cases hcf)
               obtain⟨c2,hc2⟩:=hcode;obtain⟨q1,q2⟩:=ihD cf c2 caps S3 r4 S4 hc2 hcall g3 w3 us3 .returning hS3 hV3;exact⟨rfl,q1,q2.mono fun e' u' w' hh=>by obtain⟨z1,v,z2,z3⟩:=hh;exact⟨z1,v,r4,z2,z3⟩⟩
              ·cases hl
             ·cases hl
            ·rename_i cf' rc hrc;split at hl
             ·rename_i hcf;subst hcf;rw[hrc]at krc;exact Zd hX ih krc hl hS3 hV3
             ·cases hl
           rcases he with rfl|rfl
           all_goals
            show Leaves X.P fn a3.tmps _ a3.defers .returning w3;rw[hF3.defers];refine leaves_cons (by simp) (by simpa[invoke]using q1) (q2.mono fun e' u' w' hh=>?_);obtain⟨rfl,v,r4,rfl,g4,hle4,hS4,hv4⟩:=hh;obtain⟨u,z1,z2⟩:=oC hS4 (hF3.mono hle4) kr hres;have hst:=ma (raw:=c.raw) hS (hle.trans hle4) hS4 z2;rw[h]at hst;exact⟨u,z1,hn u w' hst⟩
          ·cases hd
       ·cases h
      ·cases h
     ·cases h
    ·cases kb
   |indexByte=>
    simp only at h;split at h
    ·rename_i v hv;cases h;have hrun:=hfn us w;unfold Mc at hv;split at hv
     ·rename_i s c;cases hv
      have hus:us = #[.string ⟨s.toArray⟩,.int .u8 c]:=by
       have h2:us.size=2:=hV.1.symm;have r0:=hV.2 0 (.str s) us[0] rfl (dy (by omega));have r1:=hV.2 1 (.int .u8 c) us[1] rfl (dy (by omega));generalize h0:us[0]=u0 at r0;generalize h1:us[1]=u1 at r1;cases r0;cases r1;apply tQ
       ·simp[h2]
       ·intro i hi1 hi2;simp at hi2
        match i with
        |0=>exact h0
        |1=>exact h1
        |i+2=>omega
      subst hus;rw[hrun]
      have hfind:((List.range (ByteArray.mk s.toArray).size).find? fun i=>(ByteArray.mk s.toArray)[i]! == c.toNat.toUInt8)=(List.range s.length).find? (fun i=>(s.getD i 0)==UInt8.ofNat c.toNat):=by
       have e1:(ByteArray.mk s.toArray).size=s.length:=by simp[ByteArray.size]
       rw[e1]
       have:∀l:List Nat,(∀i∈l,i<s.length)→(l.find? fun i=>(ByteArray.mk s.toArray)[i]! == c.toNat.toUInt8)=l.find? (fun i=>(s.getD i 0)==UInt8.ofNat c.toNat):=by
        intro l
        induction l with
        |nil=>intro _;rfl
        |cons i l ih=>
         intro hl;have hi:=hl i (by simp)
         have e:(ByteArray.mk s.toArray)[i]! = s.getD i 0:=by
          rw[getElem!_pos _ i (by rw[e1];exact hi)];simp[ByteArray.getElem_eq_getElem_data,cH,hi]
         simp only[List.find?_cons,e,ih (fun j hj=>hl j (by simp[hj]))]
       exact this _ (fun i hi=>List.mem_range.1 hi)
      have hib:Extern.BytealgIndexByte.indexByte #[.string (ByteArray.mk s.toArray),.int .u8 c] =
        (match(List.range (ByteArray.mk s.toArray).size).find? fun i=>(ByteArray.mk s.toArray)[i]! == c.toNat.toUInt8 with|some i=>pure (goInt i)|none=>pure (goInt (-1))):=rfl
      rw[hib,hfind];split
      ·rename_i i hi;simp only[Sem.run_pure,Result.andThen_ok];exact hn _ w ⟨g,Le.refl g w,hS,by rw[hi];exact .int _ _⟩
      ·rename_i hi;simp only[Sem.run_pure,Result.andThen_ok];exact hn _ w ⟨g,Le.refl g w,hS,by rw[hi];exact .int _ _⟩
     ·cases hv
    ·cases h
   |ext e=>
    simp only at h;split at h
    ·rename_i v hv;cases h;exact hfn args r hv g w S us hS hV o a next Q hn
    ·cases h
   |exs e=>
    simp only at h;exact hfn args S r S' h g w us hS hV o a next Q hn
def qI(hX:bY X)(k:Nat):cW X (ax X.T k):=(Ze hX k).1
end
end Ps
