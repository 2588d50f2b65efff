/- A library's function that is given by what it answers: maps.Clone; slices.Sorted over maps.Keys. -/
import Derived.Test.YtbjefjhmnojdoaaGreatDefs
import Derived.Test.YtbjefjhmnojdoaaGreatSimO
import GoSem.Extern.BytealgIndexByte
import Derived.Defers
import Derived.Test.YtbjefjhmnojdoaaGreatGo
import Derived.ChangeSame
import GoSem.Extern.Table
import Derived.Shelf.Strings.OnBuilder
import Derived.Test.YtbjefjhmnojdoaaGreatSimMp
import Derived.Sort.KeysCollected
import Derived.Shelf.SlMaps.Clone
set_option linter.defProp false
namespace Ps
open Go
def jO(X:bF):List ResultVar→List mS→Bool
 | [],[]=>true
 |.tmp t::l,.tmp s::m=>t==s&&jO X l m
 |.cell t ty::l,.cell s ag n::m=>t==s&&jX X.P ty ag n&&jO X l m
 |_,_=>false
def ap(X:bF)(fn:Func)(c:ai):Bool:=
 (match fn.body with|some b=>eL X (c.params+(fn.ntmps-c.params)) b c.body|none=>false)&&fn.name != "runtime.NumGoroutine" && jO X fn.results.toList c.results
def oT(X:bF)(n:Nat)(f:rI):Code→List az→Bool
 |.seq a b,p::ps=>eL X n a p&&oT X n f b ps
 |.seq (.region _ ops false) b,[]=>(match ops.toList with
  | [o1,o2]=>gP X n ops o1 f.clo&&f.clo.dst==some f.t&&(match o2.op with
   |.defer c=>(match c.callee with|.value (.tmp t)=>t==f.t&&c.args.size==0|_=>false)
   |_=>false)&&o2.dst==none&&o2.guard==none
  |_=>false)&&eL X n b f.rest
 |_,_=>false
def YN(X:bF)(fn:Func)(c:rI):Bool:=
 (match fn.body with|some b=>oT X (c.params+(fn.ntmps-c.params)) c b c.pre|none=>false)&&fn.name != "runtime.NumGoroutine" && jO X fn.results.toList c.results
def FH(X:bF)(f:Nat)(e:List PV→St→Option (PV×St)):Prop:=
 ∀(args:List PV) (S:St) (r:PV) (S':St),e args S=some (r,S')→∀(g:Gh) (w:World) (us:Array Value),SR X g S w→cZ X g w args us→py X (X.fnOf f) us w (fun u w'=>eX X g w S' r u w')
def aG9(X:bF)(f:Nat)(e:List PV→Option PV):Prop:=
 ∀(args:List PV) (r:PV),e args=some r→∀(g:Gh) (w:World) (S:St) (us:Array Value),SR X g S w→cZ X g w args us→py X (X.fnOf f) us w (fun u w'=>eX X g w S r u w')
def am(X:bF)(f:Nat):yN→Prop
 |.code c=>∃fn,X.P.funcs[X.fnOf f]?=some fn∧ap X fn c=true
 |.indexByte=>∀(us:Array Value) (w:World),(callFunc (X.fnOf f) us).run X.P w=((Extern.BytealgIndexByte.indexByte us).run X.P w).andThen fun v w=>.ok (.value v) w
 |.codeD c=>∃fn,X.P.funcs[X.fnOf f]?=some fn∧YN X fn c=true
 |.ext e=>aG9 X f e
 |.exs e=>FH X f e
structure oU(X:bF):Prop where
 ty:gO X
 meth:iU X
 mixed:X.P.follows .mixedOrders=true
 fns:∀f pf,X.T.fn f=some pf→am X f pf
section
variable {X : bF} {g : Gh} {w : World}
def qD(tmps:Array Value):ResultVar→Sem Value
 |.tmp t=>pure (tmps.getD t undef)
 |.cell a t=>do loadVar t (←asAddr (tmps.getD a undef))
theorem FI{n:Dn}{fr:Fr}{a:Act}{S:St}(hS:SR X g S w)(hF:FR X n g w fr a):∀{rs:List ResultVar} {ps:List mS} {vs:List PV},jO X rs ps=true→eN fr S ps=some vs →
  ∃us:List Value,(rs.mapM (qD a.tmps)).run X.P w=.ok us w∧vs.length=us.length∧∀(j:Nat) (c:PV) (u:Value),vs[j]?=some c→us[j]?=some u→VR X g w c u
 | [],[],vs,_,h=>by cases h;exact⟨[],by simp,rfl,fun j c u e=>by simp at e⟩
 |.tmp t::rs,.tmp s::ps,vs,hc,h=>by
  simp only[jO,aV,beq_iff_eq]at hc;obtain⟨rfl,hc⟩:=hc;simp only[eN,pO]at h
  cases hr:eN fr S ps with
  |none=>rw[hr]at h;cases h
  |some vs'=>
   rw[hr]at h;cases h;obtain⟨us,h1,h2,h3⟩:=FI hS hF hc hr;refine⟨a.tmps.getD t undef::us,by simp[qD,h1],by simp[h2],fun j c u e1 e2=>?_⟩
   cases j with
   |zero=>simp only[wB,bU]at e1 e2;subst e1;subst e2;exact hF.at_ t
   |succ j=>exact h3 j c u (by simpa using e1) (by simpa using e2)
 |.cell t ty::rs,.cell s ag m::ps,vs,hc,h=>by
  simp only[jO,aV,beq_iff_eq]at hc;obtain⟨⟨rfl,hty⟩,hc⟩:=hc;simp only[eN]at h
  cases ho:pO fr S (.cell t ag m)with
  |none=>rw[ho]at h;cases h
  |some v=>
   rw[ho]at h
   cases hr:eN fr S ps with
   |none=>rw[hr]at h;cases h
   |some vs'=>
    rw[hr]at h;cases h;obtain⟨us,h1,h2,h3⟩:=FI hS hF hc hr;have r:=hF.at_ t
    have hone:∃u,(qD a.tmps (.cell t ty)).run X.P w=.ok u w∧VR X g w v u:=by
     simp only[pO]at ho;split at ho
     ·rename_i cs e;rw[e]at r;obtain⟨b,o,k1,k2,k3⟩:=zU r;obtain⟨u,q1,q2⟩:=zT hty ho k2;exact⟨u,by simp only[qD,k1,asAddr,Sem.run_bind,Sem.run_pure,Result.andThen_ok,q1],q2⟩
     ·rename_i id off e;rw[e]at r;split at ho
      ·rename_i cs hcs;generalize hu:a.tmps.getD t undef=u at r
       cases r with
       |ptr _ _ b hb=>
        have hcc:=(pw hS hb hcs).drop off;rw[dN]at hcc;obtain⟨u,q1,q2⟩:=zT hty ho hcc;exact⟨u,by simp only[qD,hu,asAddr,Sem.run_bind,Sem.run_pure,Result.andThen_ok,q1],q2⟩
      ·cases ho
     ·cases ho
    obtain⟨u,k1,k2⟩:=hone;refine⟨u::us,by simp[k1,h1],by simp[h2],fun j c x e1 e2=>?_⟩
    cases j with
    |zero=>simp only[wB,bU]at e1 e2;subst e1;subst e2;exact k2
    |succ j=>exact h3 j c x (by simpa using e1) (by simpa using e2)
 | [],_::_,_,hc,_=>by simp[jO]at hc
 |.tmp _::_,[],_,hc,_=>by simp[jO]at hc
 |.cell _ _::_,[],_,hc,_=>by simp[jO]at hc
 |.tmp _::_,.cell _ _ _::_,_,hc,_=>by simp[jO]at hc
 |.cell _ _::_,.tmp _::_,_,hc,_=>by simp[jO]at hc
def YO{n:Dn}{fr:Fr}{a:Act}{S:St}(hS:SR X g S w)(hF:FR X n g w fr a){fn:Func}{ps:List mS}{vs:List PV}(hc:jO X fn.results.toList ps=true)(h:eN fr S ps=some vs) :
  ∃u,(results fn a.tmps).run X.P w=.ok u w∧VR X g w (iF vs) u:=by
 obtain⟨us,h1,h2,h3⟩:=FI hS hF hc h
 have hm:(fn.results.mapM (qD a.tmps)).run X.P w=.ok us.toArray w:=by
  rw[Array.mapM_eq_mapM_toList];simp[h1]
 have hr:(results fn a.tmps)=(do let vs ←fn.results.mapM (qD a.tmps);pure (if h:vs.size=1 then vs[0]else .tuple vs)):=by
  unfold results
  congr 1
 rw[hr];simp only[Sem.run_bind,hm,Result.andThen_ok,Sem.run_pure];refine⟨_,rfl,?_⟩
 match vs,us,h2,h3 with
 | [],[],_,_=>exact .tup [] #[] rfl (fun j c u e=>by simp at e)
 | [v],[u],_,h3=>exact h3 0 v u rfl rfl
 |v::v'::vs,u::u'::us,h2,h3=>
  simp only[iF];rw[dif_neg (by simp)];exact .tup _ _ (by simpa using h2) (fun j c x e1 e2=>h3 j c x e1 (by simpa using e2))
def vd{P:Program}{f:FuncId}{fn:Func}{us:Array Value}{w:World}(hf:P.funcs[f]?=some fn)(hn:fn.name ≠ "runtime.NumGoroutine") {c:Code} (hb:fn.body=some c) :
  (callFunc f us).run P w=.ok (.enter f us) w:=by
 simp[callFunc,hf,hn,hb]
def aHa(X:bF)(call:bS):Prop:=
 ∀(f:Nat) (c:ai) (args:List PV) (S:St) (r:PV) (S':St),X.T.fn f=some (.code c)→call f args S=some (r,S')→∀(g:Gh) (w:World) (us:Array Value) (u:FrameMode),SR X g S w→cZ X g w args us →
  (callFunc (X.fnOf f) us).run X.P w=.ok (.enter (X.fnOf f) us) w∧CallsD X.P (X.fnOf f) us u w (fun e u' w'=>u'=u∧∃v,e=.returned v∧eX X g w S' r v w')
def YP {fn:Func} {params:Nat} {args:List PV} {us:Array Value} (hV:cZ X g w args us) (hargs:args.length=params):FR X ⟨params+(fn.ntmps-params),[]⟩ g w (gV args) {tmps:=us++Array.replicate (fn.ntmps-us.size) undef,defers:=[]}:=by
 have hsz:us.size=params:=by rw[←hV.1,hargs]
 refine⟨by simp[hsz],fun t=>?_,rfl⟩;simp only[gV]
 cases ht:args[t]? with
 |none=>exact .und _
 |some v=>
  have hlt:t<us.size:=by rw[←hV.1];exact(aS.1 ht).1
  simp only[GS,hZ];rw[jv hlt,iA hlt];exact hV.2 t v _ ht (iA hlt)
def YQ(hX:oU X){k:Nat}(ih:eZ X (bY X.T k)){c:ai}{fn:Func}{body:Code}(kb:eL X (c.params+(fn.ntmps-c.params)) body c.body=true)(kr:jO X fn.results.toList c.results=true)
  {args:List PV}{S S':St}{r:PV}{us:Array Value}(hS:SR X g S w)(hV:cZ X g w args us)
  (h:(if args.length=c.params then
    match bI X.T (bY X.T k) k c.body (gV args) S with
    |some (.norm,fr,S')=>(match eN fr S' c.results with|some vs=>some (ac c.raw S S' (iF vs))|none=>none)
    |some (.ret,fr,S')=>(match eN fr S' c.results with|some vs=>some (ac c.raw S S' (iF vs))|none=>none)
    |_=>none
   else none)=some (r,S'))
  {R:Ending→World→Prop} (hn:∀u w',eX X g w S' r u w'→R (.returned u) w'):body.wp X.P (bodyPost X.P fn R) {tmps:=us++Array.replicate (fn.ntmps-us.size) undef,defers:=[]} w:=by
 split at h
 ·rename_i hargs;have hF:=YP (fn:=fn) hV hargs
  have fin:∀(e:Ex) (fr':Fr) (S1:St) (vs:List PV),bI X.T (bY X.T k) k c.body (gV args) S=some (e,fr',S1)→(e=.norm∨e=.ret)→eN fr' S1 c.results=some vs →
    ac c.raw S S1 (iF vs)=(r,S')→body.wp X.P (bodyPost X.P fn R) {tmps:=us++Array.replicate (fn.ntmps-us.size) undef,defers:=[]} w:=by
   intro e fr' S1 vs hc he hr hfin;refine(FG hX.ty hX.meth ih hX.mixed ⟨c.params+(fn.ntmps-c.params),[]⟩ k).1 body c.body (gV args) S e fr' S1 g w _ _ kb hS hF hc (fun g1 w1 a1 hle hS1 hF1=>?_);obtain⟨u,q1,q2⟩:=YO hS1 hF1 kr hr;have hst:=YJ (raw:=c.raw) hS hle hS1 q2;rw[hfin]at hst;rcases he with rfl|rfl
   ·exact⟨hF1.defers,u,q1,hn u w1 hst⟩
   ·exact⟨hF1.defers,u,q1,hn u w1 hst⟩
  split at h
  ·rename_i fr' S1 hc;split at h
   ·rename_i vs hr;simp only[bU]at h;exact fin _ fr' S1 vs hc (.inl rfl) hr h
   ·cases h
  ·rename_i fr' S1 hc;split at h
   ·rename_i vs hr;simp only[bU]at h;exact fin _ fr' S1 vs hc (.inr rfl) hr h
   ·cases h
  ·cases h
 ·cases h
def aHb(hX:oU X){k:Nat}(ih:eZ X (bY X.T k)){f:rI}{n:Nat}{Q:Exit→Act→World→Prop}{fr1 fr2 fr3:Fr}{S1 S2 S3:St}{e:Ex}{cf:Nat}{caps:List PV}
  (ho:bf X.T (bY X.T k) [f.clo] fr1 S1=some (fr2,S2))(ht:fr2 f.t=.fn cf caps)(hr:bI X.T (bY X.T k) k f.rest fr2 S2=some (e,fr3,S3)) :
  ∀(ps:List az) (c:Code) (g:Gh) (w:World) (fr:Fr) (S:St) (a:Act),oT X n f c ps=true→SR X g S w→FR X ⟨n,[]⟩ g w fr a→ng X.T (bY X.T k) k ps fr S=some (fr1,S1) →
  (∀g3 w3 a3 us,Le g w g3 w3→SR X g3 S3 w3→FR X ⟨n,[⟨.fn (.func (X.fnOf cf)) us,#[]⟩]⟩ g3 w3 fr3 a3→cZ X g3 w3 caps us→Q (sK e) a3 w3)→c.wp X.P Q a w:=by
 intro ps
 induction ps with
 |nil=>
  intro c g w fr S a hc hS hF hp hQ;cases hp;cases c<;>try (simp[oT]at hc;done)
  rename_i x b;cases x<;>try (simp[oT]at hc;done)
  rename_i id ops draw;cases draw<;>try (simp[oT]at hc;done)
  simp only[oT]at hc;rw[aV]at hc;obtain⟨hc,hb⟩:=hc;split at hc
  ·rename_i o1 o2 hops;simp only[aV,beq_iff_eq]at hc;obtain⟨⟨⟨⟨c1,c2⟩,c3⟩,c4⟩,c5⟩:=hc;refine wp_seq (wp_region_list ?_);rw[hops]
   have hone:=vW hX.ty hX.meth ih (Q:=Exit.then (b.wp X.P Q) Q) c1 hS hF ho (K:=wpList X.P ops (Exit.then (b.wp X.P Q) Q) [o2]) (fun g1 w1 a1 fr' S' hle hS1 hF1 hl=>by
    cases hl;have hwant:Region.wanted o2 (yielded ops a1.tmps)=true:=by simp[Region.wanted,c5]
    simp only[wpList,hwant,if_true];refine .inl ?_;obtain⟨dst,op,ty,pos,after,guard⟩:=o2;simp only at c3 c4;subst c4;cases op<;>simp only at c3<;>try (cases c3;done)
    rename_i cl;split at c3
    ·rename_i t hcal;simp only[aV,beq_iff_eq]at c3;obtain⟨rfl,c6⟩:=c3;have hv:=hF1.at_ f.t;rw[ht]at hv;generalize hu:a1.tmps.getD f.t undef=u at hv
     cases hv with
     |fn _ _ us hl hvs=>
      have hargs:cl.args = #[]:=Fs c6
      have hrun:(execOp a1.eval ⟨none,.defer cl,ty,pos,after,guard⟩).run X.P w1=.ok (.defer ⟨.fn (.func (X.fnOf cf)) us,#[]⟩) w1:=by
       have he:a1.eval (.tmp f.t)=.func (.func (X.fnOf cf)) #[] us:=hu;simp[execOp,resolve,hcal,hargs,he,Deferred.ofValue]
      unfold Oper.wp;rw[hrun,Oper.upon_defer];refine(FG hX.ty hX.meth ih hX.mixed ⟨n,[⟨.fn (.func (X.fnOf cf)) us,#[]⟩]⟩ k).1 b f.rest fr2 S2 e fr3 S3 g1 w1 _ _ hb hS1 ⟨hF1.size,hF1.at_,by simp[Act.put,hF1.defers]⟩ hr (fun g3 w3 a3 hle3 hS3 hF3=>?_);exact hQ g3 w3 a3 us (hle.trans hle3) hS3 hF3 ⟨hl,fun j c u e1 e2=>(hvs j c u e1 e2).mono hle3⟩
    ·cases c3)
   simp only[wpList];split
   ·rename_i hw;rw[if_pos hw]at hone;exact .inl hone
   ·rename_i hw;rw[if_neg hw]at hone;exact hone
  ·cases hc
 |cons p ps ihp=>
  intro c g w fr S a hc hS hF hp hQ;cases c<;>simp only[oT]at hc<;>try (cases hc;done)
  rename_i x b;rw[aV]at hc;simp only[ng]at hp;split at hp
  ·rename_i fr' S' hpc;refine wp_seq ((FG hX.ty hX.meth ih hX.mixed ⟨n,[]⟩ k).1 x p fr S .norm fr' S' g w a _ hc.1 hS hF hpc (fun g1 w1 a1 hle hS1 hF1=>?_));exact ihp b g1 w1 fr' S' a1 hc.2 hS1 hF1 hp (fun g3 w3 a3 us hle3=>hQ g3 w3 a3 us (hle.trans hle3))
  ·cases hp
def aHc(hX:oU X):∀k,eZ X (bY X.T k)∧aHa X (bY X.T k):=by
 intro k
 induction k with
 |zero=>exact⟨fun f args S r S' h=>by simp[bY]at h,fun f c args S r S' _ h=>by simp[bY]at h⟩
 |succ k ihb=>
  obtain⟨ih,ihD⟩:=ihb;refine⟨?_,?_⟩
  rotate_left
  ·intro f c args S r S' hf h g w us u hS hV;simp only[bY,hf]at h;obtain⟨fn,k1,k2⟩:=hX.fns f _ hf;simp only[ap,aV,bne_iff_ne,ne_eq]at k2;obtain⟨⟨kb,kn⟩,kr⟩:=k2;split at kb
   ·rename_i body hbody;refine⟨vd k1 kn hbody,?_⟩;refine(callsD_of_wp (R:=fun e w'=>∃v,e=.returned v∧eX X g w S' r v w') k1 hbody (YQ hX ih kb kr hS hV h (fun u w' hst=>⟨u,rfl,hst⟩))).mono (fun e u' w' hh=>hh)
   ·cases kb
  intro f args S r S' h g w us hS hV o a next Q hn
  simp only[bY]at h
  cases hf:X.T.fn f with
  |none=>rw[hf]at h;cases h
  |some pf=>
   rw[hf]at h;have hfn:=hX.fns f pf hf
   cases pf with
   |code c=>
    obtain⟨fn,k1,k2⟩:=hfn;simp only[ap,aV,bne_iff_ne,ne_eq]at k2;obtain⟨⟨kb,kn⟩,kr⟩:=k2;simp only at h;split at kb
    ·rename_i body hbody;rw[vd k1 kn hbody,Oper.upon_enter];exact calls_of_wp k1 hbody (YQ hX ih kb kr hS hV h (fun u w' hst=>hn u w' hst))
    ·cases kb
   |codeD c=>
    obtain⟨fn,k1,k2⟩:=hfn;simp only[YN,aV,bne_iff_ne,ne_eq]at k2;obtain⟨⟨kb,kn⟩,kr⟩:=k2;simp only at h;split at kb
    ·rename_i body hbody;split at h
     ·rename_i hargs;split at h
      ·rename_i fr4 S4 hd;split at h
       ·rename_i vs hres;simp only[bU]at h;rw[vd k1 kn hbody,Oper.upon_enter];refine calls_of_wp_defers k1 hbody ?_;have hF:=YP (fn:=fn) hV hargs;unfold rJ at hd;split at hd
        ·cases hd
        ·rename_i fr1 S1 hps;split at hd
         ·cases hd
         ·rename_i fr2 S2 hops;split at hd
          ·rename_i cf caps ht;split at hd
           rotate_left
           ·cases hd
           rename_i hcf
           obtain⟨e,fr3,S3,hr,he,hl⟩:∃(e:Ex) (fr3:Fr) (S3:St),bI X.T (bY X.T k) k c.rest fr2 S2=some (e,fr3,S3)∧(e=.norm∨e=.ret)∧pP (bY X.T k) cf caps fr3 S3=some (fr4,S4):=by
            split at hd
            ·rename_i fr3 S3 hr;exact⟨_,fr3,S3,hr,.inl rfl,hd⟩
            ·rename_i fr3 S3 hr;exact⟨_,fr3,S3,hr,.inr rfl,hd⟩
            ·cases hd
           refine aHb hX ih hops ht hr c.pre body g w _ S _ kb hS hF hps (fun g3 w3 a3 us3 hle hS3 hF3 hV3=>?_);unfold pP at hl;split at hl
           ·rename_i r4 S5 hcall;cases hl
            have hcode:∃c2,X.T.fn cf=some (.code c2):=by
             cases hq:X.T.fn cf with
             |none=>rw[hq]at hcf;cases hcf
             |some pf=>rw[hq]at hcf;cases pf<;>first|exact⟨_,rfl⟩|(cases hcf)
            obtain⟨c2,hc2⟩:=hcode;obtain⟨q1,q2⟩:=ihD cf c2 caps S3 r4 S4 hc2 hcall g3 w3 us3 .returning hS3 hV3;rcases he with rfl|rfl
            all_goals
             show Leaves X.P fn a3.tmps _ a3.defers .returning w3;rw[hF3.defers];refine leaves_cons (by simp) (by simpa[invoke]using q1) (q2.mono fun e' u' w' hh=>?_);obtain⟨rfl,v,rfl,g4,hle4,hS4,hv4⟩:=hh;obtain⟨u,z1,z2⟩:=YO hS4 (hF3.mono hle4) kr hres;have hst:=YJ (raw:=c.raw) hS (hle.trans hle4) hS4 z2;rw[h]at hst;exact⟨u,z1,hn u w' hst⟩
           ·cases hl
          ·cases hd
       ·cases h
      ·cases h
     ·cases h
    ·cases kb
   |indexByte=>
    simp only at h;split at h
    ·rename_i v hv;cases h;have hrun:=hfn us w;unfold Ut at hv;split at hv
     ·rename_i s c;cases hv
      have hus:us = #[.string ⟨s.toArray⟩,.int .u8 c]:=by
       have h2:us.size=2:=hV.1.symm;have r0:=hV.2 0 (.str s) us[0] rfl (iA (by omega));have r1:=hV.2 1 (.int .u8 c) us[1] rfl (iA (by omega));generalize h0:us[0]=u0 at r0;generalize h1:us[1]=u1 at r1;cases r0;cases r1;apply Array.ext
       ·simp[h2]
       ·intro i hi1 hi2;simp at hi2
        match i with
        |0=>exact h0
        |1=>exact h1
        |i+2=>omega
      subst hus;rw[hrun]
      have hfind:((List.range (ByteArray.mk s.toArray).size).find? fun i=>(ByteArray.mk s.toArray)[i]! == c.toNat.toUInt8)=(List.range s.length).find? (fun i=>(s.getD i 0)==UInt8.ofNat c.toNat):=by
       have e1:(ByteArray.mk s.toArray).size=s.length:=by simp[ByteArray.size]
       rw[e1]
       have:∀l:List Nat,(∀i∈l,i<s.length)→(l.find? fun i=>(ByteArray.mk s.toArray)[i]! == c.toNat.toUInt8)=l.find? (fun i=>(s.getD i 0)==UInt8.ofNat c.toNat):=by
        intro l
        induction l with
        |nil=>intro _;rfl
        |cons i l ih=>
         intro hl;have hi:=hl i (by simp)
         have e:(ByteArray.mk s.toArray)[i]! = s.getD i 0:=by
          rw[getElem!_pos _ i (by rw[e1];exact hi)];simp[ByteArray.getElem_eq_getElem_data,mt,hi]
         simp only[List.find?_cons,e,ih (fun j hj=>hl j (by simp[hj]))]
       exact this _ (fun i hi=>List.mem_range.1 hi)
      have hib:Extern.BytealgIndexByte.indexByte #[.string (ByteArray.mk s.toArray),.int .u8 c] =
        (match(List.range (ByteArray.mk s.toArray).size).find? fun i=>(ByteArray.mk s.toArray)[i]! == c.toNat.toUInt8 with|some i=>pure (goInt i)|none=>pure (goInt (-1))):=rfl
      rw[hib,hfind];split
      ·rename_i i hi;simp only[Sem.run_pure,Result.andThen_ok];exact hn _ w ⟨g,Le.refl g w,hS,by rw[hi];exact .int _ _⟩
      ·rename_i hi;simp only[Sem.run_pure,Result.andThen_ok];exact hn _ w ⟨g,Le.refl g w,hS,by rw[hi];exact .int _ _⟩
     ·cases hv
    ·cases h
   |ext e=>
    simp only at h;split at h
    ·rename_i v hv;cases h;exact hfn args r hv g w S us hS hV o a next Q hn
    ·cases h
   |exs e=>
    simp only at h;exact hfn args S r S' h g w us hS hV o a next Q hn
def aHd(hX:oU X)(k:Nat):eZ X (bY X.T k):=(aHc hX k).1
end
end Ps
namespace Ps
open Go
def je{α:Type}:List (Nat×α)→Nat→Option α
 | [],_=>none
 |(k,v)::l,n=>if k=n then some v else je l n
def yh(l:List (Nat×Nat))(d:Nat)(k:Nat):Nat:=(je l k).getD d
def uX(l:List (Nat×Nat))(k:Nat):Nat:=match je l k with|some v=>v|none=>k+1000000
def Vn(l:List (Nat×String))(k:Nat):String:=(je l k).getD "-"
def yi:List (Nat×Nat×Nat)→Nat→Nat→Option Nat
 | [],_,_=>none
 |(t,m,f)::l,a,b=>if t=a∧m=b then some f else yi l a b
def rQ:List (Nat×Nat)→Bool
 | []=>true
 |(_,v)::l=>decide (v<1000000)&&l.all (fun q=>q.2 != v)&&rQ l
theorem rR{α:Type}:∀{l:List (Nat×α)} {k:Nat} {v:α},je l k=some v→(k,v)∈l
 | [],_,_,h=>by cases h
 |(a,b)::l,k,v,h=>by
  simp only[je]at h;split at h
  ·rename_i e;cases h;subst e;simp
  ·exact wD _ (rR h)
theorem Da:∀{l:List (Nat×Nat)},rQ l=true→∀q∈l,q.2<1000000
 | [],_,q,hq=>by simp at hq
 |(a,b)::l,h,q,hq=>by
  simp only[rQ,aV,decide_eq_true_eq]at h;rcases cX.1 hq with rfl|hq
  ·exact h.1.1
  ·exact Da h.2 q hq
theorem Vo:∀{l:List (Nat×Nat)},rQ l=true→∀{a b v:Nat},je l a=some v→je l b=some v→a=b
 | [],_,a,b,v,h,_=>by cases h
 |(k,x)::l,h,a,b,v,ha,hb=>by
  simp only[rQ,aV,decide_eq_true_eq,List.all_eq_true,bne_iff_ne,ne_eq]at h;simp only[je]at ha hb;split at ha
  ·rename_i e;cases ha;split at hb
   ·rename_i e2;omega
   ·exact absurd rfl (h.1.2 (b,x) (rR hb))
  ·split at hb
   ·cases hb;exact absurd rfl (h.1.2 (a,x) (rR ha))
   ·exact Vo h.2 ha hb
theorem aCq{l:List (Nat×Nat)}(h:rQ l=true)(a b:Nat)(e:uX l a=uX l b):a=b:=by
 unfold uX at e
 cases ha:je l a with
 |none=>
  cases hb:je l b with
  |none=>rw[ha,hb]at e;simp only at e;omega
  |some v=>
   rw[ha,hb]at e;simp only at e;have:=Da h _ (rR hb)
   simp only at this;omega
 |some u=>
  have hu:=Da h _ (rR ha)
  cases hb:je l b with
  |none=>rw[ha,hb]at e;simp only at e hu;omega
  |some v=>
   rw[ha,hb]at e;simp only at e;subst e;exact Vo h ha hb
def yj(P:Program)(t:TypeId)(m:String)(f:FuncId):Bool:=
 match P.info? t with
 |some i=>(match i.methods.find? (·.name==m)with
  |some r=>r.path.isEmpty&&(match r.func with
   |some (g,b)=>g==f&&(match P.underlying t with|some (.pointer _)=>b|some _=>!b|none=>false)
   |none=>false)
  |none=>false)
 |none=>false
theorem aCr{P:Program}{t:TypeId}{m:String}{f:FuncId}(h:yj P t m f=true)(n:Nat)(u:Value)(w:World):(Go.method (n+1) t u m).run P w=.ok (f,u) w:=by
 unfold yj at h;split at h
 ·rename_i i hi;split at h
  ·rename_i r hr;simp only[aV]at h;obtain⟨hp,h⟩:=h;split at h
   ·rename_i gf b hf;simp only[aV,beq_iff_eq]at h;obtain⟨rfl,h⟩:=h
    have hpath:r.path.toList=[]:=by
     rw[Array.isEmpty_iff]at hp;rw[hp]
    split at h
    ·rename_i e hu;subst h;simp[Go.method,typeInfo,hi,hr,hpath,Go.follow,hf,receiverAt,run_underlying hu,Place.get]
    ·rename_i d hne hu;have hb:b=false:=by simpa using h
     subst hb;simp only[Go.method,typeInfo,Sem.run_bind];simp[hi,hr,hpath,Go.follow,hf,receiverAt,run_underlying hu];cases d<;>first|rfl|(simp[Place.get];done)|exact absurd rfl (hne _)
    ·cases h
   ·cases h
  ·cases h
 ·cases h
theorem Vp{P:Program}{ty:Nat→TypeId}{mn:Nat→String}{fnOf:Nat→FuncId}:∀{l:List (Nat×Nat×Nat)},l.all (fun q=>yj P (ty q.1) (mn q.2.1) (fnOf q.2.2))=true →
  ∀(t m f:Nat),yi l t m=some f→yj P (ty t) (mn m) (fnOf f)=true
 | [],_,_,_,_,h=>by cases h
 |(a,b,c)::l,h,t,m,f,e=>by
  simp only[mq,aV]at h;simp only[yi]at e;split at e
  ·rename_i q;cases e;obtain⟨rfl,rfl⟩:=q;exact h.1
  ·exact Vp h.2 t m f e
def uY(w w':World):Prop:=w'.os=w.os∧w'.output=w.output∧w.heap.size≤w'.heap.size∧∀b,b<w.heap.size→w'.heap[b]?=w.heap[b]?
theorem aCs{p:Nat→Nat}{g:Gh}{w w':World}(h:Le (eK p) w g w'):uY w w':=
 ⟨h.os,h.output,h.size,fun b hb=>h.keep b hb (fun id e=>absurd e (by simp[eK])) rfl (fun id e=>absurd e (by simp[eK]))⟩
theorem aCt{X:bF}(hX:oU X):eZ X (aO X.T):=by
 intro f args S r S' h;obtain⟨k,hk⟩:=mX.1 h;exact aHd hX k f args S r S' hk
theorem aCu{X:bF}(hX:oU X){f:Nat}{fn:Func}(hfn:X.P.funcs[X.fnOf f]?=some fn)(hname:fn.name ≠ "runtime.NumGoroutine") (hbody0:fn.body.isSome=true)
  {args:List PV}{S':St}(h:aO X.T f args bk=some (.bool true,S')){p:Nat→Nat}{w:World}(hp:∀b,w.heap.size≤b→p b=0){us:Array Value}(hV:cZ X (eK p) w args us) :
  Calls X.P (X.fnOf f) us w fun e w'=>e=.returned (.bool true)∧uY w w':=by
 obtain⟨c,hbody⟩:=my.1 hbody0
 have h1:=aCt hX f args bk _ S' h (eK p) w us (En hp) hV (Oper.mk (some 0) (.move (.const undef)) 0 "" #[] none) {tmps:=#[undef],defers:=[]}
  (fun a w'=>a.tmps.getD 0 undef=.bool true∧uY w w') (fun _ _ _=>False) (fun u w' hst=>by
   obtain⟨g',hle,_,hr⟩:=hst;cases hr;exact⟨rfl,aCs hle⟩)
 rw[vd hfn hname hbody,Oper.upon_enter]at h1;refine h1.mono fun e w' he=>?_
 cases e with
 |returned v=>exact⟨by rw[show v=.bool true from he.1],he.2⟩
 |panicked ch=>exact absurd he id
 |outgrown=>obtain⟨a,w2,h2⟩:=he;exact absurd h2 id
end Ps
namespace Ps
open Go Go.ChangeShapes Go.WideShapes
variable {H : Type} {enc : TypeId × Value → H} {P : Program}
theorem aCv{f:Func}{s:ChangeSpec}{apart fresh handsOn again:Bool}{W W':World}{args:Array Value}{v:Value}{ds gs:List (DataW H)}{before pa pv:List MemPlace}
  (hW:DataW.Whole enc P f.params.toList s.vars apart W args.toList ds gs before)
  (hres:∀(b:Nat)(sp:Nat→Bool)(hd:Bool),DataW.TrodAll enc P W' b sp hd f.resultTypes.toList (v.resultList f.resultTypes.size) (s.fn H (ds++gs)).results [])
  (hargs:∀sp:Nat→Bool,(∀p∈before,sp p.block=true)→DataW.TrodAll enc P W' 0 sp true f.params.toList args.toList (s.fn H (ds++gs)).args pa)
  (hvars:∀sp:Nat→Bool,(∀p∈before,sp p.block=true)→DataW.TrodVars enc P W' sp s.vars (s.fn H (ds++gs)).vars pv)
  (hps:before=pa++pv)(hk:uY W W')
  (hok:∀(j:Nat)(t:TypeId)(r:Value),f.resultTypes[j]?=some t→(v.resultList f.resultTypes.size)[j]?=some r→Value.okWide P W' .any 0 t r) :
  s.post enc P f apart fresh handsOn again W args v W':=by
 have hlt:=hW.lt;have hold:∀p∈before,(fun b=>decide (b<W.heap.size)) p.block=true:=fun p hp=>by simpa using hlt p hp
 have hkb:W.keptBut W' (· ∈ before):=by
  refine⟨hk.1,hk.2.1,fun i hi=>?_⟩;rw[hk.2.2.2 i hi]
  cases h:W.heap[i]? with
  |none=>rfl
  |some o=>cases o<;>first|exact⟨rfl,rfl,rfl,fun _ _=>rfl⟩|exact .inr ⟨rfl,rfl⟩|rfl
 refine⟨ds,gs,before,[],pa,pv,hW,hres _ _ _,hargs _ hold,hvars _ hold,World.keptBut_mono (fun p hp=>⟨hp,?_⟩) hkb,fun _=>?_⟩
 ·rw[hps,dA]at hp;exact Or.inr hp
 ·obtain⟨_,_,_,_,_,hz,hn⟩:=hW;refine⟨hok,_,_,([]++pa)++pv,⟨[]++pa,pv,trodAll_append (hargs _ (fun _ _=>rfl)) (hres _ _ _),hvars _ (fun _ _=>rfl),rfl,?_,?_⟩,?_⟩
  ·intro b off hp;have hb:=hlt (.cell b off) (by rw[hps];simpa using hp)
   have:W'.frozen? ⟨b,off,none⟩=W.frozen? ⟨b,off,none⟩:=by
    simp only[World.frozen?];rw[hk.2.2.2 b (by simpa[MemPlace.block]using hb)]
   rw[this];exact hz b off (by rw[hps];simpa using hp)
  ·intro ha;have:=hn ha;rw[hps]at this;simpa using this
  ·intro p hp _;rw[hps];simpa using hp
end Ps
namespace Ps
open Go Go.RowKit
section
variable {X : bF} {g : Gh} {w w' : World} {S : St}
theorem Uv{f:FuncId}{fn:Func}(hfn:X.P.funcs[f]?=some fn)(hname:fn.name ≠ "runtime.NumGoroutine") (hbody0:fn.body.isSome=true) {us:Array Value} {K:Value→World→Prop}
  (h:Calls X.P f us w fun e w'=>∃v,e=.returned v∧K v w'):py X f us w K:=by
 obtain⟨c,hbody⟩:=my.1 hbody0;intro o a next Q hn
 rw[vd hfn hname hbody,Oper.upon_enter];refine h.mono fun e w' he=>?_;obtain⟨v,rfl,hk⟩:=he;exact hn v w' hk
end
end Ps
namespace Ps
open Go Go.RowKit Go.Maps
open Go.Proofs (encStr)
def rK:List PV→Option (List (List UInt8))
 | []=>some []
 |.str k::_::r=>(match rK r with|some l=>some (k::l)|none=>none)
 |_=>none
def pQ:List PV→St→Option (PV×St)
 | [.map id],S=>(match S.objs[id]? with
  |some cs=>some (.map S.objs.length,{S with objs:=S.objs++[cs]})
  |none=>none)
 |_,_=>none
def rL(gk:Nat):List PV→St→Option (PV×St)
 | [.fn f [.ptr i 0]],S=>if f=gk then(match S.objs[i]? with
  |some [.map m]=>(match S.objs[m]? with
   |some cs=>(match rK cs with
    |some ks=>if ks.length≤1048576∧ks.all (fun k=>decide (k.length≤maxLen))=true then
      some (if ks.isEmpty then .nils else .sl none ((ks.mergeSort leB).map .str) [],S)else none
    |none=>none)
   |none=>none)
  |_=>none)else none
 |_,_=>none
section
variable {X : bF} {g : Gh} {w w' : World} {S : St}
theorem Uw:∀{l:List PV},(∀e∈l,e.cells=[e])→l.flatMap PV.cells=l
 | [],_=>rfl
 |e::l,h=>by rw[fB,h e (by simp),Uw (fun x hx=>h x (by simp[hx]))];rfl
theorem aBj(hS:SR X g S w)(hb:Below w.heap.size w w'){b0 cap:Nat}{us:Array Value}{t:TypeId}{es:List PV}(hge:w.heap.size≤b0)(hblk:w'.heap[b0]?=some (.cells us t (0,0)))
  (hone:∀e∈es,e.cells=[e]∧e.one=true)(hcap:es.length≤cap)(hv:∀(j:Nat)(c:PV),es[j]?=some c→∃u,us[j]?=some u∧VR X g w c u) :
  eX X g w S (.sl none es []) (.slice (some ⟨b0,0,none⟩) es.length cap) w':=by
 have hle0:=ve hS hb;let g':Gh:={g with pub:=fun b=>if b=b0 then es.length else g.pub b};have hp0:g.pub b0=0:=(hS.lt b0 hge).1;have hnlt:∀b,b<w.heap.size→b≠b0:=fun b h e=>by omega
 have hle:Le g w g' w':={
  os:=hle0.os,tape:=hle0.tape,output:=hle0.output,size:=hle0.size
  obj:=fun _ _ h=>h,arr:=fun _ _ h=>h,asz:=fun _ _ h=>h
  pub:=fun b=>by
   simp only[g'];split
   ·rename_i e;rw[e,hp0];exact Nat.zero_le _
   ·exact aj _
  cell:=hle0.cell
  shape:=hle0.shape
  objN:=fun id _ h=>.inl ⟨id,h⟩,arrN:=fun _ _ h=>.inl h
  keep:=hle0.keep
  pubN:=fun b hb _ _ _=>by simp only[g'];rw[if_neg (hnlt b hb)]
  mp:=fun _ _ h=>h,mpN:=fun _ _ h=>.inl h}
 have hS':=FL hS hb
 refine⟨g',hle,⟨fun i b h=>?_,hS.inj,fun i b h=>?_,fun b id base h=>?_,hS.asz,fun b hb'=>?_,
  hS.maps.of (fun _ _ h=>h) (fun _ _ _=>rfl) (fun i b e=>hb.block b (hS.maps.lt e)) (fun c u r=>r.mono hle) (fun i b e=>⟨by simp only[g'];rw[if_neg (hnlt b (hS.maps.lt e))],rfl⟩) (fun _ _ _ _ h=>h)⟩,?_⟩
 ·obtain⟨cs',us',t',h1,h2,h3,h4⟩:=hS.obj i b h;exact⟨cs',us',t',h1,by rw[hb.block b (km hS i b h)];exact h2,h3,fun j c u e1 e2=>(h4 j c u e1 e2).mono hle⟩
 ·have:=km hS i b h;exact⟨fun hl=>by simp only[g'];rw[if_neg (hnlt b this)];exact(hS.objpub i b h).1 hl,(hS.objpub i b h).2⟩
 ·have hne:b≠b0:=fun e=>by
   have:=(hS.lt b (by omega)).2;rw[show g.arr b=some (id,base)from h]at this;cases this
  obtain⟨sz',tip,h1,h2,h3,h4⟩:=hS.arr b id base h;exact⟨sz',tip,h1,h2,h3,by simp only[g'];rw[if_neg hne];exact h4⟩
 ·have hlt0:b0<w'.heap.size:=(eC.1 hblk).1;have:=hS.lt b (Nat.le_trans hb.size hb');exact⟨by simp only[g'];rw[if_neg (by omega)];exact this.1,this.2⟩
 ·have hflat:es.flatMap PV.cells=es:=Uw (fun e he=>(hone e he).1);refine .sl none es [] b0 0 cap 1 (fun j=>us.getD j undef) (by simpa using hcap) (by decide) (fun e he=>?_) (by simp[g']) ?_ ?_ ?_ (fun e he=>?_)
  ·rw[cI]at he;rw[(hone e he).1];rfl
  ·intro j hj;simp only[cT,gB,Nat.mul_one]at hj;obtain⟨u,h1,_⟩:=hv j _ (cJ hj);have hj':j<us.size:=(eC.1 h1).1;simp[World.cell?,hblk,hj',Array.getD]
  ·intro j c hc;rw[cI,hflat]at hc;obtain⟨u,h1,h2⟩:=hv j c hc;have:us.getD j undef=u:=by simp[hZ,h1]
   rw[this];exact h2.mono hle
  ·intro i e' ht _;cases ht
  ·rw[cI]at he;rw[(hone e he).1];simp[(hone e he).2]
theorem Ux{a:PV}{us:Array Value}(hV:cZ X g w [a] us):∃x,us = #[x]∧VR X g w a x:=by
 have h2:us.size=1:=hV.1.symm;refine⟨us[0],?_,hV.2 0 a us[0] rfl (iA (by omega))⟩;apply Array.ext
 ·simp[h2]
 ·intro i hi1 hi2;simp at hi2
  match i with
  |0=>rfl
theorem aBk{f:Nat}{fn:Func}(hfn:X.P.funcs[X.fnOf f]?=some fn)(hname:fn.name ≠ "runtime.NumGoroutine") (hbody:fn.body.isSome=true)
  (hclone:∀(b:Nat)(es:Array MapEntry)(clock:Nat)(w:World),w.heap[b]?=some (.map es clock) →
   Calls X.P (X.fnOf f) #[.map (some b)] w fun e w'=>e=.returned (.map (some w.heap.size))∧w'=w.alloc (.map es clock)) :
  FH X f pQ:=by
 intro args S r S' h g w us hS hV;unfold pQ at h;split at h
 ·rename_i id;split at h
  ·rename_i cs hcs;cases h;obtain⟨x,rfl,hx⟩:=Ux hV;cases hx;rename_i b hb;obtain⟨cs',es,clock,h1,h2,h3,h4⟩:=hS.maps.ent id b hb;rw[hcs]at h1;cases h1;refine Uv hfn hname hbody ((hclone b es clock w h2).mono fun e w' he=>⟨_,he.1,?_⟩);rw[he.2];exact Xo hS h3 h4
  ·cases h
 ·cases h
theorem aBl{cs:List PV}{es:List MapEntry}(h:MR X g w cs es):∀ks,rK cs=some ks→es.map (·.key)=ks.map encStr:=by
 induction h with
 |nil=>intro ks h;cases h;rfl
 |cons k v cs e es kk hk hkk hv _ ih=>
  intro ks h;cases k<;>simp only[rK]at h<;>try (cases h;done)
  rename_i s;split at h
  ·rename_i l hl;cases h
   cases e with
   |mk key val born=>
    simp only at hk;cases hk;rw[dS,dS,ih l hl]
  ·cases h
def pS:Value→Option (DataW Unit×List MemPlace):=fun _=>some (.nil,[])
theorem Uy{P:Program}{k:TypeId}(hk:P.underlying k=some .string){e:MapEntry}{s:List UInt8}(he:e.key=encStr s)(hs:s.length≤maxLen):WideElems.rd P k pS e=some (.string s,.nil):=by
 have hz:(ByteArray.mk s.toArray).size=s.length:=by simp[ByteArray.size]
 simp[WideElems.rd,he,encStr,keyOf,hk,mapKey,hs,pS,hz]
theorem aBm{P:Program}{k:TypeId}(hk:P.underlying k=some .string){w:World}{b:Nat}{es:Array MapEntry}{clock:Nat}(hb:w.heap[b]?=some (.map es clock))(hst:MapKept.Stamped es clock)
  {ks:List (List UInt8)}(hks:es.toList.map (·.key)=ks.map encStr)(hlen:ks.length≤1048576)(hall:∀s∈ks,s.length≤maxLen) :
  ∃D:DataW Unit,w.ownsMap P k pS b es.size D∧Maps.size D=ks.length∧(strKeys D).Perm ks:=by
 have hsz:es.size=ks.length:=by
  have:=congrArg List.length hks;simpa using this
 have hmem:∀x∈es.toList,∃s∈ks,x.key=encStr s:=by
  intro x hx;have:x.key∈es.toList.map (·.key):=cD.2 ⟨x,hx,rfl⟩;rw[hks]at this;obtain⟨s,h1,h2⟩:=cD.1 this;exact⟨s,h1,h2.symm⟩
 have hrg:es.toList.map (WideElems.rg P k pS)=ks.map fun s=>((.string s:Lit),(.nil:DataW Unit)):=by
  have:∀(l:List MapEntry) (ks:List (List UInt8)),l.map (·.key)=ks.map encStr→(∀s∈ks,s.length≤maxLen)→l.map (WideElems.rg P k pS)=ks.map fun s=>((.string s:Lit),(.nil:DataW Unit)):=by
   intro l
   induction l with
   |nil=>intro ks h _;cases ks with
    |nil=>rfl
    |cons=>simp at h
   |cons x l ih=>
    intro ks h ha
    cases ks with
    |nil=>simp at h
    |cons s ks=>
     simp only[dS,kW]at h;rw[dS,dS,ih ks h.2 (fun s hs=>ha s (by simp[hs]))];rw[WideElems.rg_of (Uy hk h.1 (ha s (by simp)))]
  exact this _ _ hks hall
 refine⟨_,⟨es,clock,hb,⟨?_,hst,fun x hx=>?_⟩,aj _,rfl⟩,?_,?_⟩
 ·rw[hsz];exact Nat.le_trans hlen (by decide)
 ·obtain⟨s,h1,h2⟩:=hmem x hx;exact⟨_,Uy hk h2 (hall s h1)⟩
 ·rw[hrg,Maps.size];rw[(WideShapes.sorted_perm _).length_eq];simp
 ·rw[hrg];simp only[strKeys];have:=(WideShapes.sorted_perm (ks.map fun s=>((.string s:Lit),(.nil:DataW Unit)))).map (fun p=>strOf p.1);refine this.trans ?_;rw[oo];have:((fun p:Lit×DataW Unit=>strOf p.1)∘fun s=>((.string s:Lit),(.nil:DataW Unit)))=id:=rfl;rw[this,List.map_id]
theorem aBn{f gk:Nat}{fn:Func}{k:TypeId}(hk:X.P.underlying k=some .string)(hfn:X.P.funcs[X.fnOf f]?=some fn)(hname:fn.name ≠ "runtime.NumGoroutine") (hbody:fn.body.isSome=true)
  (hsorted:∀(bx b nn:Nat)(D0:DataW Unit)(w:World),bx<w.heap.size→w.cell? ⟨bx,0,none⟩=some (.map (some b))→w.ownsMap X.P k pS b nn D0→Maps.size D0≤1048576 →
   Calls X.P (X.fnOf f) #[.func (.func (X.fnOf gk)) #[] #[.pointer (some ⟨bx,0,none⟩)]] w fun e w'=>∃(v:Value) (ss:List (List UInt8)),e=.returned v∧ss.Perm (strKeys D0) ∧
    w'.ownsRow w.heap.size k 1 v ss.length ((ss.mergeSort (fun x y=>decide (x≤y))).map encStr)∧(v=.slice none 0 0↔ss=[])∧Below w.heap.size w w') :
  FH X f (rL gk):=by
 intro args S r S' h g w us hS hV;unfold rL at h;split at h
 ·rename_i f' i;split at h
  ·rename_i hf;subst hf;split at h
   ·rename_i m hbox;split at h
    ·rename_i cs hcs;split at h
     ·rename_i ks hks;split at h
      ·rename_i hb;obtain⟨hlen,hall⟩:=hb;have hall:∀s∈ks,s.length≤maxLen:=fun s hs=>by simpa using List.all_eq_true.1 hall s hs
       cases h;obtain⟨x,rfl,hx⟩:=Ux hV;cases hx;rename_i cus hcl hcv;have hcl:cus.size=1:=hcl.symm;have hp:=hcv 0 _ cus[0] rfl (iA (by omega))
       have hcus:cus = #[cus[0]]:=by
        apply Array.ext
        ·simp[hcl]
        ·intro j h1 h2;simp at h2;subst h2;rfl
       generalize cus[0]=p at hp hcus;subst hcus;cases hp;rename_i bx hbx _;obtain⟨cs1,us1,t1,k1,k2,k3,k4⟩:=hS.obj _ _ hbx;rw[hbox]at k1;cases k1;have k3:0<us1.size:=k3;have hm:=k4 0 _ us1[0] rfl (iA (by omega));have hcell:w.cell? ⟨bx,0,none⟩=some us1[0]:=by simp[World.cell?,k2,k3]
       generalize us1[0]=um at hm hcell;cases hm;rename_i b hb;obtain⟨cs',es,clock,h1,h2,h3,h4⟩:=hS.maps.ent m b hb;rw[hcs]at h1;cases h1;obtain⟨D,d1,d2,d3⟩:=aBm (P:=X.P) (k:=k) hk h2 h3 (aBl h4 ks hks) hlen hall;refine Uv hfn hname hbody ((hsorted bx b _ D w (eC.1 k2).1 hcell d1 (by rw[d2];exact hlen)).mono fun e w' he=>?_);obtain⟨v,ss,rfl,e1,e2,e3,e4⟩:=he;have hperm:ss.Perm ks:=e1.trans d3;have hms:ss.mergeSort (fun x y=>decide (x≤y))=ks.mergeSort leB:=mergeSort_of_perm hperm;refine⟨v,rfl,?_⟩;rw[hms]at e2
       cases ks with
       |nil=>
        have:ss=[]:=List.Perm.eq_nil hperm;rw[e3.2 this]
        exact⟨g,ve hS e4,FL hS e4,.nils⟩
       |cons k0 kr=>
        have hsne:ss≠[]:=fun e=>by rw[e]at hperm;have:=hperm.length_eq;simp at this
        have hlen2:ss.length=(((k0::kr).mergeSort leB).map PV.str).length:=by rw[List.length_map,List.length_mergeSort,hperm.length_eq]
        rcases e2.2 with⟨n1,_⟩|⟨g0,cap,cur,rfl,q1,q2,q3,q4,q5,q6⟩
        ·exact absurd (e3.1 n1) hsne
        ·rw[hlen2];rw[hlen2]at q3 q6;simp only[AZ,cF,if_false];refine aBj hS e4 q1 q2 (fun e he=>?_) q3 (fun j c hc=>?_)
         ·obtain⟨s,_,rfl⟩:=cD.1 he;exact⟨rfl,rfl⟩
         ·rw[fX]at hc
          cases hs:((k0::kr).mergeSort leB)[j]? with
          |none=>rw[hs]at hc;cases hc
          |some s=>
           rw[hs]at hc;cases hc;refine⟨encStr s,?_,.str s⟩;have hjl:j<((k0::kr).mergeSort leB).length:=(aS.1 hs).1;have:(cur.toList.take ((((k0::kr).mergeSort leB).map PV.str).length*1))[j]?=some (encStr s):=by rw[q6,fX,hs];rfl
           rw[dM (by simpa using hjl)]at this;simpa using this
      ·cases h
     ·cases h
    ·cases h
   ·cases h
  ·cases h
 ·cases h
end
end Ps
