/- One operation, whatever it does. -/
import Derived.Test.YtpjmpaidcidjgaaGreatDoorAbbKt
import Derived.Test.YtpjmpaidcidjgaaGreatDoorSimSoKt
set_option linter.defProp false
namespace Ps
open Go
section
variable {X : Tie} {g : Gh} {w : World} {n : Dn} {fr : Fr} {a : Act} {S : St}
def dV(X:Tie)(g:Gh)(w:World)(a:Act)(op:Go.Op)(S':St)(v:PV):Prop:=
 ∀(dst:Option Tmp) (ty:TypeId) (pos:String) (after:Array Edge) (guard:Option (Nat×Bool)) (next:Act→World→Prop) (Q:Exit→Act→World→Prop),
  (∀u w',bu X g w S' v u w'→next (a.put dst u) w')→(Oper.mk dst op ty pos after guard).wp X.P a w next Q
def bk.opWp(hS:SR X g S w){op:Go.Op}{v:PV}(h:bk X g w a op v):dV X g w a op S v:=by
 intro dst ty pos after guard next Q hn
 obtain⟨u,h1,h2⟩:=h dst ty pos after guard;unfold Oper.wp;rw[h1];exact hn u w ⟨g,Le.refl g w,hS,h2⟩
def mP(X:Tie)(f:FuncId)(us:Array Value)(w:World)(K:Value→World→Prop):Prop:=
 ∀(o:Oper) (a:Act) (next:Act→World→Prop) (Q:Exit→Act→World→Prop),(∀u w',K u w'→next (a.put o.dst u) w')→o.upon X.P a next Q ((callFunc f us).run X.P w)
def cW(X:Tie)(call:aX):Prop:=
 ∀(f:Nat) (args:List PV) (S:St) (r:PV) (S':St),call f args S=some (r,S')→∀(g:Gh) (w:World) (us:Array Value),SR X g S w→bD X g w args us →
  mP X (X.fnOf f) us w (fun u w'=>bu X g w S' r u w')
def eC(X:Tie):Prop:=
 ∀(t m f:Nat),X.T.meth t m=some f→∀(u:Value) (w:World),(Go.method (X.P.types.size+Made.depth) (X.ty t) u (X.mn m)).run X.P w=.ok (X.fnOf f,u) w
def nk(hF:FR X n g w fr a){xs:Array Operand}{ys:List aG}(h:eL X xs.toList ys=true):bD X g w (ys.map (ev fr)) (xs.map a.eval):=by
 obtain⟨h1,h2⟩:=sJ hF h;exact⟨by simpa using h1,fun j c u e1 e2=>h2 j c u e1 (by simpa using e2)⟩
def pp{cs ds:List PV}{us vs:Array Value}(h:bD X g w cs us)(k:bD X g w ds vs):bD X g w (cs++ds) (us++vs):=by
 refine⟨by simp[h.1,k.1],fun j c u e1 e2=>?_⟩;by_cases hj:j<cs.length
 ·rw[aw hj]at e1;rw[gc (by rw[←h.1];exact hj)]at e2;exact h.2 j c u e1 e2
 ·rw[eH (by omega)]at e1;rw[zC (by rw[←h.1];omega)]at e2;rw[←h.1]at e2;exact k.2 _ c u e1 e2
def YB{c:PV}{cs:List PV}{u:Value}{us:Array Value}(h:VR X g w c u)(k:bD X g w cs us):bD X g w (c::cs) (#[u]++us):=by
 refine pp (cs:=[c]) ⟨rfl,fun j c' u' e1 e2=>?_⟩ k
 cases j with
 |zero=>simp at e1 e2;subst e1;subst e2;exact h
 |succ j=>simp at e1
def YC{keep:Bool}{S:St}{q:Option (PV×St)}{v:PV}{S':St}(h:lr keep S q=some (v,S')):q=some (v,S'):=by
 unfold lr at h;split at h
 ·cases h
 ·split at h
  ·split at h
   ·cases h;rfl
   ·cases h
  ·cases h;rfl
def yE{S S':St}{q:Option PV}{v:PV}(h:ck S q=some (v,S')):S'=S∧q=some v:=by
 cases q with
 |none=>cases h
 |some x=>cases h;exact⟨rfl,rfl⟩
def bN(p:Nat→Nat):Gh:=⟨fun _=>none,fun _=>none,fun _=>none,p,fun _=>none,fun _=>false⟩
def yF{p:Nat→Nat}(h:hZ X g w):hZ X (bN p) w:=h.sub (fun _ _ e=>absurd e (by simp[bN])) (fun _ _=>rfl) (fun _ _ e=>absurd e (by simp[bN]))
def pq{p:Nat→Nat}(h:∀b,w.heap.size≤b→p b=0)(hg:hZ X (bN p) w):SR X (bN p) bF w where
 obj:=fun id b h=>absurd h (by simp[bN])
 inj:=fun i j b h=>absurd h (by simp[bN])
 objpub:=fun i b h=>absurd h (by simp[bN])
 arr:=fun b id base h=>absurd h (by simp[bN])
 asz:=fun id sz h=>absurd h (by simp[bN])
 maps:=hY.no (fun i=>rfl)
 lt:=fun b hb=>⟨h b hb,rfl⟩
 gl:=hg
def YD{call:aX}(hC:cW X call)(hS:SR X g S w){f:Nat}{args:List PV}{r:PV}{us:Array Value}(hV:bD X g w args us)(h:gT call f args=some r) :
  mP X (X.fnOf f) us w (fun u w'=>bu X g w S r u w'):=by
 unfold gT at h;split at h
 ·rename_i hfree
  cases hc:call f (PV.frzL args) bF with
  |none=>rw[hc]at h;cases h
  |some q=>
   obtain⟨r0,S1⟩:=q;rw[hc]at h;simp only[rZ]at h;split at h
   ·rename_i hrf;cases h;let g0:Gh:=bN g.pub;have hS0:SR X g0 bF w:=pq (fun b hb=>(hS.lt b hb).1) (yF hS.gl)
    have hV0:bD X g0 w (PV.frzL args) us:=by
     rw[fS];refine⟨by simpa using hV.1,fun j c u e1 e2=>?_⟩;rw[fk]at e1
     cases hc':args[j]? with
     |none=>rw[hc']at e1;cases e1
     |some c'=>rw[hc']at e1;cases e1;exact VR.freeze (g1:=g) (g2:=g0) (fun _=>aR _) (hV.2 j c' u hc' e2) (di hfree c' (ct hc'))
    intro o a next Q hn
    refine hC f _ bF r0 S1 hc g0 w us hS0 hV0 o a next Q (fun u w' hst=>hn u w' ?_)
    obtain⟨g1,hle,hS1,hr⟩:=hst;let g2:Gh:={g with pub:=g1.pub};have hpo:∀b,b<w.heap.size→g1.pub b=g.pub b:=fun b hb=>hle.pubN b hb (fun id h=>absurd h (by simp[g0,bN])) rfl (fun id h=>absurd h (by simp[g0,bN]));have hkeep:∀b,b<w.heap.size→w'.heap[b]?=w.heap[b]?:=fun b hb=>hle.keep b hb (fun id h=>absurd h (by simp[g0,bN])) rfl (fun id h=>absurd h (by simp[g0,bN]))
    have hle2:Le g w g2 w':=⟨hle.os,hle.tape,hle.output,hle.size,fun _ _ h=>h,fun _ _ h=>h,fun _ _ h=>h,hle.pub,hle.cell,hle.shape,fun id _ h=>.inl ⟨id,h⟩,fun _ _ h=>.inl h,
     fun b hb _ _ _=>hkeep b hb,fun b hb _ _ _=>hpo b hb,fun _ _ h=>h,fun _ _ h=>.inl h,fun b _ _ h e=>⟨h,by rw[hkeep b (hS.maps.fzb h)];exact e⟩⟩
    refine⟨g2,hle2,⟨fun i b h=>?_,hS.inj,fun i b h=>?_,fun b id base h=>?_,hS.asz,fun b hb=>?_,hS.maps.of (fun _ _ h=>h) (fun _ _ _=>rfl) (fun i b h=>hkeep b (hS.maps.lt h)) (fun c u r=>r.mono hle2) (fun i b h=>⟨hpo b (hS.maps.lt h),rfl⟩) (fun _ _ _ _ h=>h),hS.gl.le hle2⟩,VR.freeze (g1:=g1) (g2:=g2) (fun _=>aR _) hr hrf⟩
    ·obtain⟨cs,us',t,k1,k2,k3,k4⟩:=hS.obj i b h;exact⟨cs,us',t,k1,by rw[hkeep b (fi hS i b h)];exact k2,k3,fun j c u e1 e2=>(k4 j c u e1 e2).mono hle2⟩
    ·have k:=hS.objpub i b h;exact⟨fun hl=>by simp only[g2];rw[hpo b (fi hS i b h)];exact k.1 hl,k.2⟩
    ·obtain⟨sz,tip,k1,k2,k3,k4⟩:=hS.arr b id base h
     have hb:b<w.heap.size:=by
      rcases iH b w.heap.size with hb|hb
      ·exact hb
      ·have:=(hS.lt b hb).2;rw[show g.arr b=some (id,base)from h]at this;cases this
     exact⟨sz,tip,k1,k2,k3,by simp only[g2];rw[hpo b hb];exact k4⟩
    ·have k:=hS1.lt b hb;have hb':w.heap.size≤b:=Nat.le_trans hle.size hb;exact⟨k.1,(hS.lt b hb').2⟩
   ·cases h
 ·cases h
theorem yG:∀{l:List PV},PV.scalL l=true→∀v∈l,v.scal=true
 | [],_,v,hv=>by simp at hv
 |a::l,h,v,hv=>by
  simp only[PV.scalL,aI]at h;rcases cY.1 hv with rfl|hv
  ·exact h.1
  ·exact yG h.2 v hv
def VR.ofScal{g1 g2:Gh}{w1 w2:World}{c:PV}{u:Value}(r:VR X g1 w1 c u):c.scal=true→VR X g2 w2 c u:=by
 induction r with
 |int k n=>intro _;exact .int k n
 |bool b=>intro _;exact .bool b
 |str s=>intro _;exact .str s
 |nilp=>intro _;exact .nilp
 |nils=>intro _;exact .nils
 |nili=>intro _;exact .nili
 |nilf=>intro _;exact .nilf
 |nilm=>intro _;exact .nilm
 |iface t v u _ ih=>intro h;simp only[PV.scal]at h;exact .iface t v u (ih h)
 |agg cs us hl _ ih=>intro h;simp only[PV.scal]at h;exact .agg cs us hl (fun j c u e1 e2=>ih j c u e1 e2 (yG h c (ct e1)))
 |tup cs us hl _ ih=>intro h;simp only[PV.scal]at h;exact .tup cs us hl (fun j c u e1 e2=>ih j c u e1 e2 (yG h c (ct e1)))
 |_=>intro h;simp[PV.scal]at h
def YE{call:aX}(hC:cW X call)(hS:SR X g S w){f:Nat}{args:List PV}{r:PV}{us:Array Value}(hV:bD X g w args us)(h:jn call f args S=some r) :
  mP X (X.fnOf f) us w (fun u w'=>bu X g w S r u w'):=by
 unfold jn at h;split at h
 ·rename_i as hsol;split at h
  ·rename_i r0 S1 hc;split at h
   ·rename_i hsc;cases h;let gp:Gh:={g with pub:=eR g 0 S};let g0:Gh:=bN (eR g 0 S)
    have hPl:∀b,w.heap.size≤b→eR g 0 S b=0:=by
     intro b hb;rw[kF (fun id _ _ e=>by have:=fi hS id b e;omega)];exact(hS.lt b hb).1
    have hS0:SR X g0 bF w:=pq hPl (yF hS.gl)
    have hV0:bD X g0 w (PV.frzL as) us:=by
     obtain⟨q1,q2⟩:=jP hsol;rw[fS];refine⟨by rw[dN,←q1];exact hV.1,fun j c u e1 e2=>?_⟩;rw[fk]at e1
     cases hc':as[j]? with
     |none=>rw[hc']at e1;cases e1
     |some c'=>
      rw[hc']at e1;cases e1;have hlt:j<args.length:=by rw[q1];exact(aL.1 hc').1
      have hs:=q2 j args[j] c' (bK hlt) hc';have hr:=hV.2 j args[j] u (bK hlt) e2;have hr2:VR X gp w c' u:=Pa (g2:=gp) hS (n0:=0) (fun _ _ h=>h) (fun _ _ h=>h) (Pb hS) (Pc hS) (dJ+1) dJ (by omega) hs hr;exact VR.freeze (g1:=gp) (g2:=g0) (fun _=>aR _) hr2 (yh _ hs)
    intro o a next Q hn
    refine hC f _ bF r S1 hc g0 w us hS0 hV0 o a next Q (fun u w' hst=>hn u w' ?_)
    obtain⟨g1,hle,hS1,hr⟩:=hst;have hkeep:∀b,b<w.heap.size→w'.heap[b]?=w.heap[b]?:=fun b hb=>hle.keep b hb (fun id h=>absurd h (by simp[g0,bN])) rfl (fun id h=>absurd h (by simp[g0,bN]))
    have hpl:∀b j,j<g.pub b→b<w.heap.size:=fun b j hj=>by
     rcases iH b w.heap.size with h1|h1
     ·exact h1
     ·rw[(hS.lt b h1).1]at hj;omega
    have hle2:Le g w g w':=⟨hle.os,hle.tape,hle.output,hle.size,fun _ _ h=>h,fun _ _ h=>h,fun _ _ h=>h,fun _=>aR _,fun b j hj=>by simp only[World.cell?];rw[hkeep b (hpl b j hj)],
     fun b us t fz e=>⟨us,by rw[hkeep b (bc.1 e).1];exact e,rfl⟩,fun id _ h=>.inl ⟨id,h⟩,fun _ _ h=>.inl h,
     fun b hb _ _ _=>hkeep b hb,fun _ _ _ _ _=>rfl,fun _ _ h=>h,fun _ _ h=>.inl h,fun b _ _ h e=>⟨h,by rw[hkeep b (hS.maps.fzb h)];exact e⟩⟩
    refine⟨g,hle2,⟨fun i b h=>?_,hS.inj,hS.objpub,hS.arr,hS.asz,fun b hb=>hS.lt b (Nat.le_trans hle.size hb),hS.maps.of (fun _ _ h=>h) (fun _ _ _=>rfl) (fun i b h=>hkeep b (hS.maps.lt h)) (fun c u r=>r.mono hle2) (fun _ _ _=>⟨rfl,rfl⟩) (fun _ _ _ _ h=>h),hS.gl.le hle2⟩,hr.ofScal hsc⟩;obtain⟨cs,us',t,k1,k2,k3,k4⟩:=hS.obj i b h;exact⟨cs,us',t,k1,by rw[hkeep b (fi hS i b h)];exact k2,k3,fun j c u e1 e2=>(k4 j c u e1 e2).mono hle2⟩
   ·cases h
  ·cases h
 ·cases h
def sS{call:aX}(hC:cW X call)(hS:SR X g S w){m:CM}{f:Nat}{args:List PV}{r:PV}{S':St}{us:Array Value}(hV:bD X g w args us)(h:cE call m f args S=some (r,S')) :
  mP X (X.fnOf f) us w (fun u w'=>bu X g w S' r u w'):=by
 cases m with
 |std=>exact hC f args S r S' h g w us hS hV
 |keep=>exact hC f args S r S' (YC h) g w us hS hV
 |pur=>
  obtain⟨rfl,h1⟩:=yE h
  exact YD hC hS hV h1
 |snap=>
  obtain⟨rfl,h1⟩:=yE h;exact YE hC hS hV h1
def OR{call:aX}(hC:cW X call)(hS:SR X g S w)(hF:FR X n g w fr a){c:Go.Call}{m:CM}{f:Nat}{args:List aG}{v:PV}{S':St}
  (hf:(match c.callee with|.value (.func q)=>X.fnOf f==q|_=>false)=true)(ha:eL X c.args.toList args=true)(h:cE call m f (args.map (ev fr)) S=some (v,S')):dV X g w a (.call c) S' v:=by
 intro dst ty pos after guard next Q hn
 obtain⟨callee,cargs,tys⟩:=c;simp only at hf ha;split at hf
 ·simp only[beq_iff_eq]at hf;subst hf;have:=sS hC hS (nk hF ha) h (Oper.mk dst (.call ⟨.value (.func (X.fnOf f)),cargs,tys⟩) ty pos after guard) a next Q hn
  unfold Oper.wp
  have e:execOp a.eval ⟨dst,.call ⟨.value (.func (X.fnOf f)),cargs,tys⟩,ty,pos,after,guard⟩=callFunc (X.fnOf f) (cargs.map a.eval):=by
   simp[execOp,resolve,Act.eval,Deferred.ofValue,invoke]
  rw[e];exact this
 ·cases hf
def YF{call:aX}(hC:cW X call)(hS:SR X g S w)(hF:FR X n g w fr a){c:Go.Call}{m:CM}{x:aG}{args:List aG}{v:PV}{S':St}{f:Nat}{caps:List PV}
  (hf:(match c.callee with|.value y=>aK X y x|_=>false)=true)(ha:eL X c.args.toList args=true)(hx:ev fr x=.fn f caps)
  (h:cE call m f (args.map (ev fr)++caps) S=some (v,S')):dV X g w a (.call c) S' v:=by
 intro dst ty pos after guard next Q hn
 obtain⟨callee,cargs,tys⟩:=c;simp only at hf ha;split at hf
 ·rename_i y;have r:=af hF hf;rw[hx]at r;generalize hu:a.eval y=u at r
  cases r with
  |fn _ _ us hl hv=>
   have:=sS hC hS (pp (nk hF ha) ⟨hl,hv⟩) h (Oper.mk dst (.call ⟨.value y,cargs,tys⟩) ty pos after guard) a next Q hn
   unfold Oper.wp
   have e:execOp a.eval ⟨dst,.call ⟨.value y,cargs,tys⟩,ty,pos,after,guard⟩=callFunc (X.fnOf f) (cargs.map a.eval++us):=by
    simp[execOp,resolve,hu,Deferred.ofValue,invoke]
   rw[e];exact this
 ·cases hf
def YG{call:aX}(hC:cW X call)(hS:SR X g S w)(hF:FR X n g w fr a){c:Go.Call}{m:CM}{x:aG}{args:List aG}{v:PV}{S':St}{f:Nat}{first:List PV}
  (hf:(match c.callee with|.value y=>aK X y x|_=>false)=true)(ha:eL X c.args.toList args=true)(hx:ev fr x=.bfn f first)
  (h:cE call m f (first++args.map (ev fr)) S=some (v,S')):dV X g w a (.call c) S' v:=by
 intro dst ty pos after guard next Q hn
 obtain⟨callee,cargs,tys⟩:=c;simp only at hf ha;split at hf
 ·rename_i y;have r:=af hF hf;rw[hx]at r;generalize hu:a.eval y=u at r
  cases r with
  |bfn _ _ us hl hv=>
   have:=sS hC hS (pp ⟨hl,hv⟩ (nk hF ha)) h (Oper.mk dst (.call ⟨.value y,cargs,tys⟩) ty pos after guard) a next Q hn
   unfold Oper.wp
   have e:execOp a.eval ⟨dst,.call ⟨.value y,cargs,tys⟩,ty,pos,after,guard⟩=callFunc (X.fnOf f) (us++cargs.map a.eval):=by
    simp[execOp,resolve,hu,Deferred.ofValue,invoke]
   rw[e];exact this
 ·cases hf
def YH{call:aX}(hM:eC X)(hC:cW X call)(hS:SR X g S w)(hF:FR X n g w fr a){c:Go.Call}{cm:CM}{m:Nat}{x:aG}{args:List aG}{v v0:PV}{S':St}{f t:Nat}
  (hf:(match c.callee with|.invoke y name=>X.mn m==name&&aK X y x|_=>false)=true)(ha:eL X c.args.toList args=true)(hx:ev fr x=.iface t v0)(hm:X.T.meth t m=some f)
  (h:cE call cm f (v0::args.map (ev fr)) S=some (v,S')):dV X g w a (.call c) S' v:=by
 intro dst ty pos after guard next Q hn
 obtain⟨callee,cargs,tys⟩:=c;simp only at hf ha;split at hf
 ·rename_i y name;simp only[aI,beq_iff_eq]at hf;obtain⟨rfl,hf⟩:=hf;have r:=af hF hf;rw[hx]at r;generalize hu:a.eval y=u at r
  cases r with
  |iface _ _ u0 hv=>
   have:=sS hC hS (YB hv (nk hF ha)) h (Oper.mk dst (.call ⟨.invoke y (X.mn m),cargs,tys⟩) ty pos after guard) a next Q hn
   unfold Oper.wp
   have e:(execOp a.eval ⟨dst,.call ⟨.invoke y (X.mn m),cargs,tys⟩,ty,pos,after,guard⟩).run X.P w=(callFunc (X.fnOf f) (#[u0]++cargs.map a.eval)).run X.P w:=by
    have hex:(#[Value.iface (X.ty t) u0]++cargs.map a.eval).extract 1 (#[Value.iface (X.ty t) u0]++cargs.map a.eval).size=cargs.map a.eval:=by
     apply Array.ext';simp[jX]
    have h0:(#[Value.iface (X.ty t) u0]++cargs.map a.eval)[0]?=some (.iface (X.ty t) u0):=by
     rw[gc (by simp)];rfl
    simp only[execOp,resolve,hu,Sem.run_bind,Sem.run_pure,Result.andThen_ok,invoke,h0,hex,callMethod,run_program,hM t m f hm]
   rw[e];exact this
 ·cases hf
def OS(hS:SR X g S w)(hF:FR X n g w fr a){ag:Bool}{m:Nat}{x:aG}{x':Operand}{t:TypeId}{id off:Nat}{cs:List PV}(ht:gR X.P t ag m=true)(hx:aK X x' x=true)
  (he:ev fr x=.ptr id off)(hcs:S.objs[id]?=some cs){v:PV}(hv:ap ag m (cs.drop off)=some v):bk X g w a (.load t x') v:=by
 intro dst ty pos after guard;have r:=af hF hx;rw[he]at r;generalize hu:a.eval x'=u at r
 cases r with
 |ptr _ _ b hb=>
  have hc:=(mN hS hb hcs).drop off;rw[cd]at hc;obtain⟨u,h4,h5⟩:=sM ht hv hc;exact⟨u,by simp[execOp,hu,Instr.loadAt,Instr.sureAddr,h4],h5⟩
def OT(hS:SR X g S w)(hF:FR X n g w fr a){m:Nat}{p x:aG}{p' x':Operand}{t:TypeId}{id off:Nat}{cs:List PV}
  (ht:(match X.P.info? t with|some i=>i.size==m|none=>false)=true)(hp:aK X p' p=true)(hx:aK X x' x=true)(he:ev fr p=.ptr id off)(hcs:S.objs[id]?=some cs)
  (hm:(ev fr x).cells.length=m)(hoff:off+m≤cs.length)(hone:(ev fr x).cells.all PV.one=true) :
  dV X g w a (.store t p' x') {S with objs:=S.objs.set id (bB cs off (ev fr x).cells)} .und:=by
 intro dst ty pos after guard next Q hn
 have r:=af hF hp;rw[he]at r;have rx:=af hF hx;generalize hu:a.eval p'=u at r
 cases r with
 |ptr _ _ b hb=>
  have hsz:(Go.sizeOf t).run X.P w=.ok m w:=by
   split at ht
   ·rename_i i hi;simp only[beq_iff_eq]at ht;simp[Go.sizeOf,typeInfo,hi,ht]
   ·cases ht
  obtain⟨w',h1,h2⟩:=Xz hS hb hcs rx hone hm hoff hsz;unfold Oper.wp
  have e:(execOp a.eval ⟨dst,.store t p' x',ty,pos,after,guard⟩).run X.P w=.ok .skip w':=by
   simp only[execOp,Sem.run_bind,hu,h1,Result.andThen_ok,Sem.run_pure]
  rw[e];exact hn undef w' h2
def YI(hS:SR X g S w)(hF:FR X n g w fr a){ro:Bool}{x:aG}{x':Operand}{t:TypeId}(hx:aK X x' x=true)(hone:(ev fr x).cells.all PV.one=true){v:PV}{S':St}
  (h:(if ro then(PV.ref (ev fr x).cells,S)else cR S (ev fr x).cells)=(v,S')):dV X g w a (.box t x') S' v:=by
 intro dst ty pos after guard next Q hn
 have r:=mO (af hF hx) hone;unfold Oper.wp
 have e:(execOp a.eval ⟨dst,.box t x',ty,pos,after,guard⟩).run X.P w=.ok (.value (.pointer (some ⟨w.heap.size,0,none⟩))) (w.alloc (.cells (a.eval x').cells t)):=by
  simp[execOp,Instr.box,newVar,newRow]
 rw[e];refine hn _ _ ?_;cases ro
 ·simp only[bg,if_false]at h;have:=OK hS r t;rw[h]at this;exact this
 ·simp only[if_true]at h;cases h;exact yB hS r t
def yH{P:Program}{t:TypeId}{z:List PV}(h:jC P t z=true):∃u,(zeroValue t).run P w=.ok u w∧jA u.cells.toList z=true:=by
 unfold jC at h;split at h
 ·rename_i i hi;split at h
  ·rename_i u hu;exact⟨u,by simp[zeroValue,typeInfo,hi,hu],h⟩
  ·cases h
 ·cases h
def YJ(hS:SR X g S w){ro:Bool}{z:List PV}{t:TypeId}(hz:jC X.P t z=true){v:PV}{S':St}
  (h:(if ro then(PV.ref z,S)else cR S z)=(v,S')):dV X g w a (.alloc t) S' v:=by
 intro dst ty pos after guard next Q hn
 obtain⟨u,h1,h2⟩:=yH (w:=w) hz;have r0:=mH (X:=X) (g:=g) (w:=w) h2;have r:bD X g w z u.cells:=⟨by simpa using r0.1,fun j c x e1 e2=>r0.2 j c x e1 (by simpa using e2)⟩;unfold Oper.wp
 have e:(execOp a.eval ⟨dst,.alloc t,ty,pos,after,guard⟩).run X.P w=.ok (.value (.pointer (some ⟨w.heap.size,0,none⟩))) (w.alloc (.cells u.cells t)):=by
  simp[execOp,Instr.alloc,newVar,newRow,h1]
 rw[e];refine hn _ _ ?_;cases ro
 ·simp only[bg,if_false]at h;have:=OK hS r t;rw[h]at this;exact this
 ·simp only[if_true]at h;cases h;exact yB hS r t
def YK(hS:SR X g S w)(hF:FR X n g w fr a){ro:Bool}{v:PV}{S':St}{x:aG}{x':Operand}{s d:TypeId}{str:List UInt8}(hs:(X.P.underlying s).isSome=true)
  (hd:(match X.P.underlying d with|some (.slice e)=>gB X.P e .u8|_=>false)=true)(hx:aK X x' x=true)(he:ev fr x=.str str)
  (h:(if ro then(PV.sl none (aJ str) [],S)else dF S 1 (aJ str))=(v,S')):dV X g w a (.convert s d x') S' v:=by
 intro dst ty pos after guard next Q hn
 have r:=af hF hx;rw[he]at r;generalize hu:a.eval x'=u at r;cases r;split at hd
 ·rename_i e hue;have hu8:=pi hd;obtain⟨ds,hds⟩:=oT.1 hs;have hsize:(ByteArray.mk str.toArray).size=str.length:=by simp[ByteArray.size]
  obtain⟨cap,hcap⟩:∃cap,cap=(Question.appendCap str.length 0 e).cut (w.tape w.drawn (.appendCap str.length 0 e)):=⟨_,rfl⟩
  have hge:str.length≤cap:=by
   rw[hcap];simp only[Question.cut];omega
  let us:Array Value:=(str.map fun b=>Value.int .u8 b.toNat).toArray++Array.replicate (cap-str.length) (.int .u8 0);have hus:us.size=cap:=by simp[us];omega
  have hrun:(execOp a.eval ⟨dst,.convert s d x',ty,pos,after,guard⟩).run X.P w =
    .ok (.value (.slice (some ⟨w.heap.size,0,none⟩) str.length cap)) ((w.drew.alloc (.cells us e)).freeze ⟨w.heap.size,cap,none⟩ 1):=by
   have hsh:(w.drew.alloc (.cells us e)).shape? w.heap.size=some (e,us.size):=by
    simp only[World.shape?,OQ,cj,if_pos]
   simp only[execOp,Sem.run_bind,hu,convert,run_underlying hds,run_underlying hue,run_underlying hu8,Result.andThen_ok,Conv.stringToBytes,run_choose,Question.forced,hsize,bg,if_false,←hcap,newRow,run_newObj,Sem.run_pure];have e1:((str.toArray.map fun b=>Value.int .u8 b.toNat)++Array.replicate (cap-str.length) (Value.int .u8 0))=us:=by simp[us]
   simp only[e1];have e2:({heap:=w.heap.push (.cells us e),tape:=w.tape,drawn:=w.drawn+1,os:=w.os,output:=w.output}:World)=w.drew.alloc (.cells us e):=rfl;rw[e2];simp only[markStringish,Sem.run_bind,run_shape,Result.andThen_ok];rw[hsh];simp[hus]
  unfold Oper.wp;rw[hrun];refine hn _ _ ?_
  have hheap:((w.drew.alloc (.cells us e)).freeze ⟨w.heap.size,cap,none⟩ 1).heap=w.heap.push (.cells us e (cap,cap+1)):=by
   simp only[World.freeze,OQ];simp only[Nat.one_ne_zero,if_false];apply Array.ext_getElem?;intro k;rw[lO,cj,cj];by_cases hk:k=w.heap.size
   ·subst hk;simp
   ·rw[if_neg (Ne.symm hk),if_neg hk,if_neg hk]
  have hone:∀x∈aJ str,x.cells=[x]∧x.one=true:=by
   intro x hx;simp only[aJ,List.mem_map]at hx;obtain⟨b,_,rfl⟩:=hx;exact⟨rfl,rfl⟩
  have hcells:∀(j:Nat) (c:PV),((aJ str).flatMap PV.cells)[j]?=some c→∃u,us[j]?=some u∧VR X g w c u:=by
   intro j c hc;rw[sP (fun x hx=>(hone x hx).1)]at hc;simp only[aJ,fk]at hc
   cases hj:str[j]? with
   |none=>rw[hj]at hc;cases hc
   |some b=>
    rw[hj]at hc;cases hc;have hjl:=(aL.1 hj).1;refine⟨_,?_,.int _ _⟩;simp only[us];rw[gc (by simpa using hjl)];simp[hj]
  have e1:((w.drew.alloc (.cells us e)).freeze ⟨w.heap.size,cap,none⟩ 1).os=w.os:=by simp[World.freeze];rfl
  have e2:((w.drew.alloc (.cells us e)).freeze ⟨w.heap.size,cap,none⟩ 1).tape=w.tape:=by simp[World.freeze]
  have e3:((w.drew.alloc (.cells us e)).freeze ⟨w.heap.size,cap,none⟩ 1).output=w.output:=by simp[World.freeze];rfl
  cases ro
  ·simp only[bg,if_false]at h
   have hst:=nj hS (es:=aJ str) (us:=us) (t:=e) (lo:=cap) (hi:=cap+1) (sz:=1) (cap:=cap)
    (w':=(w.drew.alloc (.cells us e)).freeze ⟨w.heap.size,cap,none⟩ 1) hheap e1 e2 e3 (by omega)
    (fun x hx=>by rw[(hone x hx).1];rfl) (fun x hx=>by rw[(hone x hx).1];simp[(hone x hx).2]) (by simpa[aJ]using hge) (by omega) (.inr (by omega)) hcells
   rw[h]at hst;simpa[aJ]using hst
  ·simp only[if_true]at h;cases h
   have hst:=OM hS (es:=aJ str) (us:=us) (t:=e) (lo:=cap) (hi:=cap+1) (sz:=1) (cap:=cap)
    (w':=(w.drew.alloc (.cells us e)).freeze ⟨w.heap.size,cap,none⟩ 1) hheap e1 e2 e3 (by omega)
    (fun x hx=>by rw[(hone x hx).1];rfl) (fun x hx=>by rw[(hone x hx).1];simp[(hone x hx).2]) (by simpa[aJ]using hge) (by omega) hcells
   simpa[aJ]using hst
 ·cases hd
end
end Ps
