/- Arrays that are objects: they grow, and are another object from then on. -/
import Derived.Test.YtpjmpaidcidjgaaGreatDoorAbbKt
import Derived.Test.YtpjmpaidcidjgaaGreatDoorSimIKt
set_option linter.defProp false
namespace Ps
open Go
section
variable {X : Tie} {g : Gh} {w : World}
theorem fS:∀l:List PV,PV.frzL l=l.map PV.frz
 | []=>by simp[PV.frzL]
 |a::l=>by simp[PV.frzL,fS l]
theorem di:∀{l:List PV},PV.freeL l=true→∀v∈l,v.free=true
 | [],_,v,hv=>by simp at hv
 |a::l,h,v,hv=>by
  simp only[PV.freeL,aI]at h;rcases cY.1 hv with rfl|hv
  ·exact h.1
  ·exact di h.2 v hv
def xx(v:PV):v.frz.cells=v.cells.map PV.frz:=by
 cases v<;>simp[PV.frz,PV.cells,fS]
def Xv(v:PV):v.frz.one=v.one:=by
 cases v<;>simp[PV.frz,PV.one]
def xy{v:PV}(h:v.free=true):∀c∈v.cells,c.free=true:=by
 cases v<;>simp only[PV.cells]<;>first
  |(intro c hc;simp at hc;subst hc;exact h)
  |(simp only[PV.free]at h;exact di h)
def Xw(es:List PV):(es.map PV.frz).flatMap PV.cells=(es.flatMap PV.cells).map PV.frz:=by
 induction es with
 |nil=>rfl
 |cons e es ih=>simp[dB,ih,xx]
def VR.freeze{g1 g2:Gh}{w1:World}(h4:∀b,g1.pub b≤g2.pub b){c:PV}{u:Value}(r:VR X g1 w1 c u):c.free=true→VR X g2 w1 c.frz u:=by
 induction r with
 |und u=>intro h;simp[PV.free]at h
 |int k n=>intro _;exact .int k n
 |bool b=>intro _;exact .bool b
 |str s=>intro _;exact .str s
 |nilp=>intro _;exact .nilp
 |nils=>intro _;exact .nils
 |nili=>intro _;exact .nili
 |nilf=>intro _;exact .nilf
 |ptr id off b e=>intro h;simp[PV.free]at h
 |ref cs b o us hpub hc _ ih=>
  intro h;simp only[PV.free]at h;simp only[PV.frz,fS];refine .ref _ b o us (by simpa using Nat.le_trans hpub (h4 b)) (fun j hj=>hc j (by simpa using hj)) (fun j c hj=>?_);rw[fk]at hj
  cases hc':cs[j]? with
  |none=>rw[hc']at hj;cases hj
  |some c'=>rw[hc']at hj;cases hj;exact ih j c' hc' (di h c' (ct hc'))
 |slz a=>intro _;exact .slz a
 |sl tip es sp b o cap sz us hcap hpos hsz hpub hc _ hlink hone ih=>
  intro h;simp only[PV.free,aI]at h;simp only[PV.frz,fS]
  have:=VR.sl (X:=X) (g:=g2) (w:=w1) none (es.map PV.frz) (sp.map PV.frz) b o cap sz us (by simpa using hcap) hpos
   (fun e he=>by
    rw[←dp]at he;obtain⟨e',he',rfl⟩:=List.mem_map.1 he;rw[xx];simp[hsz e' he'])
   (by simpa using Nat.le_trans hpub (h4 b)) (fun j hj=>hc j (by simpa using hj))
   (fun j c hj=>by
    rw[←dp,Xw,fk]at hj
    cases hc':((es++sp).flatMap PV.cells)[j]? with
    |none=>rw[hc']at hj;cases hj
    |some c'=>
     rw[hc']at hj;cases hj;refine ih j c' hc' ?_;obtain⟨e,he,hce⟩:=List.mem_flatMap.1 (ct hc');refine xy ?_ c' hce;rcases bn.1 he with he|he
     ·exact di h.1 e he
     ·exact di h.2 e he)
   (fun id e ht _=>by cases ht)
   (fun e he=>by
    rw[←dp]at he;obtain⟨e',he',rfl⟩:=List.mem_map.1 he;rw[xx,List.all_map];have:=hone e' he';rw[List.all_eq_true]at this ⊢;intro x hx;simpa[Xv]using this x hx)
  rw[dN]at this
  exact this
 |osl id off len sz cap b e hl hr=>intro h;simp[PV.free]at h
 |emp a=>intro h;simp[PV.free]at h
 |iface t v u _ ih=>intro h;simp only[PV.free]at h;exact .iface t _ u (ih h)
 |agg cs us hl _ ih=>
  intro h;simp only[PV.free]at h;simp only[PV.frz,fS];refine .agg _ us (by simpa using hl) (fun j c u hj e2=>?_);rw[fk]at hj
  cases hc':cs[j]? with
  |none=>rw[hc']at hj;cases hj
  |some c'=>rw[hc']at hj;cases hj;exact ih j c' u hc' e2 (di h c' (ct hc'))
 |tup cs us hl _ ih=>
  intro h;simp only[PV.free]at h;simp only[PV.frz,fS];refine .tup _ us (by simpa using hl) (fun j c u hj e2=>?_);rw[fk]at hj
  cases hc':cs[j]? with
  |none=>rw[hc']at hj;cases hj
  |some c'=>rw[hc']at hj;cases hj;exact ih j c' u hc' e2 (di h c' (ct hc'))
 |fn f cs us hl _ ih=>
  intro h;simp only[PV.free]at h;simp only[PV.frz,fS];refine .fn f _ us (by simpa using hl) (fun j c u hj e2=>?_);rw[fk]at hj
  cases hc':cs[j]? with
  |none=>rw[hc']at hj;cases hj
  |some c'=>rw[hc']at hj;cases hj;exact ih j c' u hc' e2 (di h c' (ct hc'))
 |bfn f cs us hl _ ih=>
  intro h;simp only[PV.free]at h;simp only[PV.frz,fS];refine .bfn f _ us (by simpa using hl) (fun j c u hj e2=>?_);rw[fk]at hj
  cases hc':cs[j]? with
  |none=>rw[hc']at hj;cases hj
  |some c'=>rw[hc']at hj;cases hj;exact ih j c' u hc' e2 (di h c' (ct hc'))
 |nilm=>intro _;exact .nilm
 |map id b e=>intro h;simp[PV.free]at h
 |hnd b=>intro h;simp[PV.free]at h
def VR.ofFree{g1 g2:Gh}{w1:World}(h2:∀b x,g1.arr b=some x→g2.arr b=some x)(h3:∀id sz,g1.asz id=some sz→g2.asz id=some sz)
  (h4:∀b,g1.pub b≤g2.pub b){c:PV}{u:Value}(r:VR X g1 w1 c u):c.free=true→VR X g2 w1 c u:=by
 induction r with
 |und u=>intro h;simp[PV.free]at h
 |int k n=>intro _;exact .int k n
 |bool b=>intro _;exact .bool b
 |str s=>intro _;exact .str s
 |nilp=>intro _;exact .nilp
 |nils=>intro _;exact .nils
 |nili=>intro _;exact .nili
 |nilf=>intro _;exact .nilf
 |ptr id off b e=>intro h;simp[PV.free]at h
 |ref cs b o us hpub hc _ ih=>
  intro h;simp only[PV.free]at h
  exact .ref cs b o us (Nat.le_trans hpub (h4 b)) hc (fun j c hj=>ih j c hj (di h c (ct hj)))
 |slz a=>intro _;exact .slz a
 |sl tip es sp b o cap sz us hcap hpos hsz hpub hc _ hlink hone ih=>
  intro h;simp only[PV.free,aI]at h;refine .sl tip es sp b o cap sz us hcap hpos hsz (Nat.le_trans hpub (h4 b)) hc (fun j c hj=>ih j c hj ?_) (fun id e ht hs=>?_) hone
  ·obtain⟨e,he,hce⟩:=List.mem_flatMap.1 (ct hj);refine xy ?_ c hce;rcases bn.1 he with he|he
   ·exact di h.1 e he
   ·exact di h.2 e he
  ·obtain⟨k1,k2,k3⟩:=hlink id e ht hs;refine⟨k1,h3 _ _ k2,?_⟩;rcases k3 with k3|⟨base,k4,k5,k6⟩
   ·exact .inl k3
   ·exact .inr ⟨base,h2 _ _ k4,k5,k6⟩
 |osl id off len sz cap b e hl hr=>intro h;simp[PV.free]at h
 |emp a=>intro h;simp[PV.free]at h
 |iface t v u _ ih=>intro h;simp only[PV.free]at h;exact .iface t _ u (ih h)
 |agg cs us hl _ ih=>
  intro h;simp only[PV.free]at h
  exact .agg _ us hl (fun j c u hj e2=>ih j c u hj e2 (di h c (ct hj)))
 |tup cs us hl _ ih=>
  intro h;simp only[PV.free]at h
  exact .tup _ us hl (fun j c u hj e2=>ih j c u hj e2 (di h c (ct hj)))
 |fn f cs us hl _ ih=>
  intro h;simp only[PV.free]at h
  exact .fn f _ us hl (fun j c u hj e2=>ih j c u hj e2 (di h c (ct hj)))
 |bfn f cs us hl _ ih=>
  intro h;simp only[PV.free]at h
  exact .bfn f _ us hl (fun j c u hj e2=>ih j c u hj e2 (di h c (ct hj)))
 |nilm=>intro _;exact .nilm
 |map id b e=>intro h;simp[PV.free]at h
 |hnd b=>intro h;simp[PV.free]at h
end
end Ps
set_option linter.defProp false
namespace Ps
open Go
section
variable {X : Tie} {g : Gh} {w : World} {n : Dn} {fr : Fr} {a : Act} {S : St}
def kD(hS:SR X g S w):∀i b,g.obj i=some b→i<S.objs.length:=fun i b h=>by
 obtain⟨_,_,_,h1,_⟩:=hS.obj i b h;exact(aL.1 h1).1
def tC(hS:SR X g S w):g.obj S.objs.length=none:=by
 cases h:g.obj S.objs.length with
 |none=>rfl
 |some b=>have:=kD hS _ _ h;omega
def tD(hS:SR X g S w){S':St}(h:∀i b,g.obj i=some b→S'.objs[i]?=S.objs[i]?):(∀i j b,g.obj i=some b→g.obj j=some b→bt S' j→i≤j) ∧
  ∀i b,g.obj i=some b→(bt S' i→g.pub b=0)∧g.arr b=none:=by
 have hl:∀i b,g.obj i=some b→bt S' i→bt S i:=by
  rintro i b hb ⟨c,l,e⟩;rw[h i b hb]at e;exact⟨c,l,e⟩
 exact⟨fun i j b h1 h2 h3=>hS.inj i j b h1 h2 (hl j b h2 h3),fun i b hb=>⟨fun h1=>(hS.objpub i b hb).1 (hl i b hb h1),(hS.objpub i b hb).2⟩⟩
def ZX (hS:SR X g S w) {id b:Nat} (hid:g.obj id=some b):SR X g {S with objs:=S.objs.set id []} w∧¬bt {S with objs:=S.objs.set id []} id:=by
 have hlive:∀i,bt {S with objs:=S.objs.set id []} i→i≠id∧bt S i:=by
  rintro i ⟨c,l,e⟩;simp only at e;by_cases hi:i=id
  ·subst hi;rw[dd (kD hS _ _ hid)]at e;cases e
  ·rw[bq (Ne.symm hi)]at e;exact⟨hi,c,l,e⟩
 refine⟨⟨fun i b' h=>?_,fun i j b' h1 h2 h3=>hS.inj i j b' h1 h2 (hlive j h3).2,fun i b' h=>⟨fun hl=>(hS.objpub i b' h).1 (hlive i hl).2,(hS.objpub i b' h).2⟩,hS.arr,hS.asz,hS.lt,
  hS.maps.of (fun _ _ h=>h) (fun i b' h=>?_) (fun _ _ _=>rfl) (fun _ _ r=>r) (fun _ _ _=>⟨rfl,rfl⟩) (fun _ _ _ _ h=>h),hS.gl⟩,fun h=>(hlive id h).1 rfl⟩
 ·obtain⟨cs,us,t,h1,h2,h3,h4⟩:=hS.obj i b' h;by_cases hi:i=id
  ·subst hi;exact⟨[],us,t,by simp only;rw[dd (kD hS _ _ hid)],h2,bh _,fun j c u e=>by simp at e⟩
  ·exact⟨cs,us,t,by simp only;rw[bq (Ne.symm hi)];exact h1,h2,h3,h4⟩
 ·have:i≠id:=fun e=>by subst e;exact hS.maps.dis _ _ _ h hid
  simp only;rw[bq (Ne.symm this)]
def yb(hS:SR X g S w){w':World}{cs:List PV}{us:Array Value}{t:TypeId}{len cap sz:Nat}
  (hh:w'.heap=w.heap.push (.cells us t (0,0)))(hos:w'.os=w.os)(htape:w'.tape=w.tape)(hout:w'.output=w.output)
  (hl:cs.length≤us.size)(hcap:len≤cap)(hroom:cap*sz≤us.size)(hv:∀(j:Nat)(c:PV),cs[j]?=some c→∃u,us[j]?=some u∧VR X g w c u) :
  bu X g w {S with objs:=S.objs++[cs]} (.osl S.objs.length 0 len sz) (.slice (some ⟨w.heap.size,0,none⟩) len cap) w':=by
 have hnew:=tC hS;let g':Gh:={g with obj:=fun i=>if i=S.objs.length then some w.heap.size else g.obj i}
 have hle:Le g w g' w':=lB hh hos htape hout hS.lt
  (fun i b h=>by simp only[g'];rw[if_neg (fun e=>by subst e;rw[hnew]at h;cases h)];exact h)
  (fun i b h=>by
   simp only[g']at h;split at h
   ·cases h;exact .inr rfl
   ·exact .inl h)
  (fun _ _ h=>h) (fun _ _ h=>.inl h) (fun _ _ h=>h) (fun _ _=>rfl) (fun _ _ h=>h) (fun _ _ h=>.inl h)
 have hbl:=fi hS;have hol:=kD hS
 have hlive:∀i b,g.obj i=some b→bt {S with objs:=S.objs++[cs]} i→bt S i:=by
  rintro i b h ⟨c,l,e⟩;simp only at e;rw[aw (hol i b h)]at e;exact⟨c,l,e⟩
 have hblock:w'.heap[w.heap.size]?=some (.cells us t (0,0)):=by rw[hh,cj,if_pos rfl]
 refine⟨g',hle,⟨fun i b h=>?_,fun i j b h1 h2 hl=>?_,fun i b h=>?_,hS.arr,hS.asz,fun b hb=>hS.lt b (by rw[hh]at hb;simp at hb;omega),
   hS.maps.of (fun _ _ h=>h) (fun i b h=>by
    obtain⟨_,_,_,q,_⟩:=hS.maps.ent i b h;simp only;rw[aw (aL.1 q).1]) (fun i b h=>by
    have:=hS.maps.lt h;rw[hh,cj,if_neg (by omega)]) (fun c u r=>r.mono hle) (fun _ _ _=>⟨rfl,rfl⟩) (fun i b c h h2=>by
    simp only[g']at h2;split at h2
    ·rename_i e;subst e;obtain⟨_,_,_,q,_⟩:=hS.maps.ent _ b h;rw[cr (aR _)]at q;cases q
    ·exact h2),hS.gl.le hle⟩,.osl _ _ _ _ _ w.heap.size (by simp[g']) hcap (fun _=>⟨us,t,0,0,hblock,by omega,.inl (aR _)⟩)⟩
 ·simp only[g']at h;split at h
  ·rename_i e;subst e;cases h;refine⟨cs,us,t,by simp,⟨_,hblock,.inl (aR _)⟩,hl,fun j c u e1 e2=>?_⟩;obtain⟨u',q1,q2⟩:=hv j c e1;rw[e2]at q1;cases q1;exact q2.mono hle
  ·rename_i e;obtain⟨cs',us',t',h1,h2,h3,h4⟩:=hS.obj i b h;have:=hbl i b h;refine⟨cs',us',t',?_,by rw[hh,cj,if_neg (by omega)];exact h2,h3,fun j c u e1 e2=>(h4 j c u e1 e2).mono hle⟩;simp only;rw[aw (aL.1 h1).1];exact h1
 ·simp only[g']at h1 h2;split at h1<;>split at h2
  ·omega
  ·cases h1;have:=hbl j _ h2;omega
  ·cases h2;have:=hbl i _ h1;omega
  ·exact hS.inj i j b h1 h2 (hlive j b h2 hl)
 ·simp only[g']at h;split at h
  ·cases h;exact⟨fun _=>(hS.lt _ (aR _)).1,(hS.lt _ (aR _)).2⟩
  ·exact⟨fun hl=>(hS.objpub i b h).1 (hlive i b h hl),(hS.objpub i b h).2⟩
def ZY(hS:SR X g S w){w':World}{b o len cap sz:Nat}{us us':Array Value}{t:TypeId}{vs:List Value}{cs:List PV}{flo fhi:Nat}(hb:w.heap[b]?=some (.cells us t (flo,fhi)))(hfz:fhi≤flo∨us.size≤flo)
  (hdead:∀i,g.obj i=some b→¬bt S i)(hex:∃i,g.obj i=some b)(hpub:g.pub b=0)(harr:g.arr b=none)(hst:ni w w' b o us us' t (flo,fhi) vs)
  (hl:cs.length≤us.size)(hcap:len≤cap)(hroom:cap*sz≤us.size)(hv:∀(j:Nat)(c:PV),cs[j]?=some c→∃u,us'[j]?=some u∧VR X g w c u) :
  bu X g w {S with objs:=S.objs++[cs]} (.osl S.objs.length 0 len sz) (.slice (some ⟨b,0,none⟩) len cap) w':=by
 have hnew:=tC hS;let g':Gh:={g with obj:=fun i=>if i=S.objs.length then some b else g.obj i};have hle0:Le g w g w':=hst.le hb rfl rfl rfl (fun _=>aR _) (fun _ _=>rfl) (.inl hex) (by omega) rfl
 have hle1:Le g w' g' w':=⟨rfl,rfl,rfl,aR _,fun i b' h=>by simp only[g'];rw[if_neg (fun e=>by subst e;rw[hnew]at h;cases h)];exact h,fun _ _ h=>h,fun _ _ h=>h,fun _=>aR _,fun _ _ _=>rfl,
  fun _ us _ _ h=>⟨us,h,rfl⟩,fun i b' h=>by
   simp only[g']at h;split at h
   ·cases h;exact .inl hex
   ·exact .inl ⟨i,h⟩,fun _ _ h=>.inl h,fun _ _ _ _ _=>rfl,fun _ _ _ _ _=>rfl,fun _ _ h=>h,fun _ _ h=>.inl h,fun _ _ _ h e=>⟨h,e⟩⟩
 have hle:Le g w g' w':=hle0.trans hle1;have hol:=kD hS
 have hlive:∀i b,g.obj i=some b→bt {S with objs:=S.objs++[cs]} i→bt S i:=by
  rintro i b h ⟨c,l,e⟩;simp only at e;rw[aw (hol i b h)]at e;exact⟨c,l,e⟩
 refine⟨g',hle,⟨fun i b' h=>?_,fun i j b' h1 h2 hl=>?_,fun i b' h=>?_,hS.arr,hS.asz,fun b' hb'=>hS.lt b' (by rw[hst.size]at hb';exact hb'),
   hS.maps.of (fun _ _ h=>h) (fun i b' h=>by
    obtain⟨_,_,_,q,_⟩:=hS.maps.ent i b' h;simp only;rw[aw (aL.1 q).1]) (fun i b' h=>hst.other b' (fun e=>by
    obtain⟨_,_,_,_,q,_⟩:=hS.maps.ent i b' h;subst e;rw[hb]at q;cases q)) (fun c u r=>r.mono hle) (fun _ _ _=>⟨rfl,rfl⟩) (fun i b' c h h2=>by
    simp only[g']at h2;split at h2
    ·rename_i e;subst e;obtain⟨_,_,_,q,_⟩:=hS.maps.ent _ b' h;rw[cr (aR _)]at q;cases q
    ·exact h2),hS.gl.le hle⟩,.osl _ _ _ _ _ b (by simp[g']) hcap (fun _=>⟨us',t,flo,fhi,hst.block,by rw[hst.len];omega,by rw[hst.len];exact hfz⟩)⟩
 ·simp only[g']at h;split at h
  ·rename_i e;subst e;cases h;refine⟨cs,us',t,by simp,⟨_,hst.block,by rw[hst.len];exact hfz⟩,by rw[hst.len];exact hl,fun j c u e1 e2=>?_⟩;obtain⟨u',q1,q2⟩:=hv j c e1;rw[e2]at q1;cases q1;exact q2.mono hle
  ·rename_i e;obtain⟨cs',us2,t',h1,h2,h3,h4⟩:=hS.obj i b' h
   have hget:({S with objs:=S.objs++[cs]}:St).objs[i]?=some cs':=by
    simp only;rw[aw (aL.1 h1).1];exact h1
   by_cases hbe:b'=b
   ·subst hbe
    have:cs'=[]:=by
     cases cs' with
     |nil=>rfl
     |cons c l=>exact absurd ⟨c,l,h1⟩ (hdead i h)
    subst this;exact⟨[],us',t,hget,⟨_,hst.block,by rw[hst.len];exact hfz⟩,bh _,fun j c u e1=>by simp at e1⟩
   ·exact⟨cs',us2,t',hget,by rw[hst.other b' hbe];exact h2,h3,fun j c u e1 e2=>(h4 j c u e1 e2).mono hle⟩
 ·simp only[g']at h1 h2;split at h1<;>split at h2
  ·omega
  ·cases h1;exact absurd (hlive j _ h2 hl) (hdead j h2)
  ·have:=hol i b' h1;omega
  ·exact hS.inj i j b' h1 h2 (hlive j b' h2 hl)
 ·simp only[g']at h;split at h
  ·cases h;exact⟨fun _=>hpub,harr⟩
  ·exact⟨fun hl=>(hS.objpub i b' h).1 (hlive i b' h hl),(hS.objpub i b' h).2⟩
def ZZ(hS:SR X g S w){t u:TypeId}{ie:TypeInfo}{e:TypeId}{z:Value}(ht:X.P.underlying t=some (.slice e))(hie:X.P.info? e=some ie)(hz:ie.zero=some z)(hzs:z.cells.size=ie.size)
  (hu:(∃e',X.P.underlying u=some (.slice e'))∨X.P.underlying u=some .string)(hby:0<ie.bytes)
  {vs vx v:PV}{us ux:Value}{new:List PV}{S':St}(hp:0<ie.size)(rs:VR X g w vs us)(rx:VR X g w vx ux)(hnew:dS S ie.size vx=some new)(ty:TypeId)
  (h:gD ie.size ie.bytes S vs new=some (v,S')) :
  ∃q w',(Builtin.append_ #[t,u] ty #[us,ux]).run X.P w=.ok q w'∧bu X g w S' v q w':=by
 obtain⟨hlen,⟨news,hnl,hfirst,hnv⟩,hnsz,hnone⟩:=OO hS hnew rx;have hflatn:=gV hnsz;unfold gD at h;split at h
 ·
  rename_i hemp;have hn0:new.length=0:=by simpa using hemp
  have hf:=hfirst w rfl;rw[hn0]at hf
  have hnews:news=[]:=by
   rw[hn0]at hnl;simpa using hnl
  subst hnews
  have run:∀(b:Option Addr) (len cap:Nat),len≤cap→us=.slice b len cap→(Builtin.append_ #[t,u] ty #[us,ux]).run X.P w=.ok (.slice b len cap) w:=by
   intro b len cap hc hb;subst hb
   rcases hu with⟨e',hu⟩|hu<;>cases b <;>
    simp[Builtin.append_,run_underlying ht,run_underlying hu,Go.sizeOf,typeInfo,hie,hlen,hn0,hf,storeCells,hc]
  have hrs:=rs;split at h
  ·cases h;generalize hq:us=q at rs hrs;cases rs;exact⟨_,w,by have:=run _ _ _ (aR _) hq;rw[hq]at this;exact this,g,Le.refl g w,hS,hrs⟩
  ·cases h;generalize hq:us=q at rs hrs;cases rs;exact⟨_,w,by have:=run _ _ _ (aR _) hq;rw[hq]at this;exact this,g,Le.refl g w,hS,hrs⟩
  ·split at h
   ·cases h;generalize hq:us=q at rs hrs
    cases rs with
    |osl _ _ _ _ cap b h0 hl hr=>exact⟨_,w,by have:=run _ _ _ hl hq;rw[hq]at this;exact this,g,Le.refl g w,hS,hrs⟩
   ·cases h
  ·cases h
 ·rename_i hemp
  have hn0:0<new.length:=by
   cases new with
   |nil=>simp at hemp
   |cons _ _=>simp
  have fresh:∀(b:Option Addr),us=.slice b 0 0→new.length*ie.bytes≤140737488355328→∃q w',(Builtin.append_ #[t,u] ty #[us,ux]).run X.P w=.ok q w'∧bu X g w (jm S ie.size new).2 (jm S ie.size new).1 q w':=by
   intro b hb hfit;subst hb;have hrun:=po (P:=X.P) (w:=w) ht hie hz hu b 0 0 new.length ux [] news (hlen w) (hfirst _ rfl) (by cases b<;>simp[Builtin.firstCells,loadCells,loadCellsFrom]) (by omega) (by simpa using hfit) hby ty;refine⟨_,_,hrun,?_⟩;have hcap:=grownCap_ge w (0+new.length) 0 e
   have hsz:([].toArray++news.toArray++Builtin.zeroCells z.cells (grownCap w (0+new.length) 0 e-(0+new.length))).size=(grownCap w (0+new.length) 0 e)*ie.size:=by
    simp only[qZ,qm,cP,size_zeroCells,hzs,hnl,cd]at hcap ⊢;rw[←cu]
    congr 1;omega
   have hst:=yb hS (cs:=new.flatMap PV.cells) (us:=[].toArray++news.toArray++Builtin.zeroCells z.cells (grownCap w (0+new.length) 0 e-(0+new.length))) (t:=e) (len:=new.length) (sz:=ie.size)
    (cap:=grownCap w (0+new.length) 0 e) (w':=w.drew.alloc (.cells ([].toArray++news.toArray++Builtin.zeroCells z.cells (grownCap w (0+new.length) 0 e-(0+new.length))) e)) rfl rfl rfl rfl
    (by rw[hsz,hflatn];exact gM _ (by omega)) (by omega) (by rw[hsz];exact aR _)
    (fun j c hc=>by
     obtain⟨x,hx,hr⟩:=hnv j c hc;refine⟨x,?_,hr⟩;have hj:=(aL.1 hx).1;rw[gc (by simp;omega)];simpa using hx)
   rw[cd];rw[cd]at hst;exact hst
  split at h
  ·split at h
   ·rename_i hfit;simp only[ae]at h;generalize hq:us=q at rs;cases rs;obtain⟨q,w',h1,h2⟩:=fresh none hq hfit;rw[h]at h2;exact⟨q,w',by rw[←hq];exact h1,h2⟩
   ·cases h
  ·split at h
   ·rename_i hfit;simp only[ae]at h;generalize hq:us=q at rs
    cases rs with
    |emp aa=>
    obtain⟨q,w',h1,h2⟩:=fresh (some aa) hq hfit;rw[h]at h2;exact⟨q,w',by rw[←hq];exact h1,h2⟩
   ·cases h
  ·rename_i id off len sz';split at h
   ·rename_i cs hcs;split at h
    ·rename_i hcond;obtain⟨rfl,rfl,hlv,hle,hone,hfit⟩:=hcond;cases h;generalize hq:us=q at rs
     cases rs with
     |osl _ _ _ _ cap b hid hl hr=>
      obtain⟨cs',us1,t1,k1,⟨⟨flo,fhi⟩,k2,hfz⟩,k3,k4⟩:=hS.obj id b hid;rw[hcs]at k1;cases k1
      have hlive:bt S id:=by
       cases cs with
       |nil=>simp at hlv
       |cons c l=>exact⟨c,l,hcs⟩
      have hpub:=(hS.objpub id b hid).1 hlive;have harr:=(hS.objpub id b hid).2;obtain⟨us2,t2,lo2,hi2,q1,q2,_⟩:=hr hp;rw[k2]at q1;cases q1;rw[cd]at q2;obtain⟨hS1,hdead⟩:=ZX hS hid;have hl1:(S.objs.set id []).length=S.objs.length:=by simp
      have htl:(cs.take (len*ie.size)).length=len*ie.size:=by simp;omega
      have hbl:b<w.heap.size:=(bc.1 k2).1;by_cases hroom:len+new.length≤cap
      ·
       have hnewone:∀x∈news,x.oneCell'=true:=by
        intro x hx;obtain⟨j,hj⟩:=fm hx;have hjl:j<new.length*ie.size:=by rw[←hnl];exact(aL.1 hj).1
        obtain⟨c,hcj⟩:∃c,(new.flatMap PV.cells)[j]?=some c:=⟨_,bK (by rw[hflatn];exact hjl)⟩;obtain⟨x',hx',hr'⟩:=hnv j c hcj;rw[hj]at hx';cases hx';refine hr'.one ?_;obtain⟨y,hy,hcy⟩:=List.mem_flatMap.1 (ct hcj);exact(List.all_eq_true.1 (hnone y hy)) c hcy
       have hmul:(len+new.length)*ie.size=len*ie.size+new.length*ie.size:=cu _ _ _
       have hsz63:(len+new.length)*ie.size≤us1.size:=by
        have:=gM ie.size hroom;omega
       obtain⟨w',us',s1,s2⟩:=pn X.P b (len*ie.size) t1 flo fhi news 0 w us1 k2 hfz (by omega) hnewone;rw[eo]at s2;have hf:=hfirst w rfl;refine⟨.slice (some ⟨b,0,none⟩) (len+new.length) cap,w',?_,?_⟩
       ·rcases hu with⟨e',hu⟩|hu <;>
         simp[Builtin.append_,run_underlying ht,run_underlying hu,Go.sizeOf,typeInfo,hie,hlen,hf,hroom,eV,s1]
       ·have hst:=ZY hS1 (cs:=cs.take (len*ie.size)++new.flatMap PV.cells) (len:=len+new.length) (cap:=cap) (sz:=ie.size) k2 hfz
         (fun i hi hlvi=>by
          have h1:bt S i:=by
           obtain⟨c,l,e⟩:=hlvi;simp only at e;by_cases hii:i=id
           ·subst hii;rw[dd (kD hS _ _ hid)]at e;cases e
           ·rw[bq (Ne.symm hii)]at e;exact⟨c,l,e⟩
          have e1:=hS.inj i id b hi hid hlive;have e2:=hS.inj id i b hid hi h1;have:i=id:=by omega
          subst this;exact hdead hlvi) ⟨id,hid⟩ hpub harr s2 (by rw[ak,htl,hflatn];omega) hroom (by omega)
         (fun j c hc=>by
          rcases iH j (len*ie.size)with hj|hj
          ·rw[aw (by rw[htl];exact hj),cT hj]at hc;have hju:j<us1.size:=by omega
           refine⟨us1[j],?_,k4 j c _ hc (dy hju)⟩;rw[s2.get j,if_neg (by omega)];exact dy hju
          ·rw[eH (by rw[htl];exact hj),htl]at hc;obtain⟨x,hx,hr'⟩:=hnv _ c hc;refine⟨x,?_,hr'⟩;have:=(aL.1 hx).1;rw[s2.get j,if_pos (by omega)];exact hx)
        simp only[hl1]at hst;exact hst
      ·
       have hcells:=mN hS hid hcs;obtain⟨us0,hus0⟩:=hcells;simp only[cd]at hus0
       have hfits:∀w',w'.cell?=w.cell?→(Builtin.firstCells ie.size len (.slice (some ⟨b,0,none⟩) len cap)).run X.P w'=.ok ((List.range (len*ie.size)).map us0).toArray w':=by
        intro w' hw';simp only[Builtin.firstCells]
        exact run_loadCells w' ⟨b,0,none⟩ (len*ie.size) us0 (fun j hj=>by
         rw[eV,hw',cd];exact(hus0 j _ (bK (by omega))).1)
       have hrun:=po (P:=X.P) (w:=w) ht hie hz hu (some ⟨b,0,none⟩) len cap new.length ux ((List.range (len*ie.size)).map us0) news (hlen w) (hfirst _ rfl) (hfits _ rfl) (by omega) hfit hby ty;refine⟨_,_,hrun,?_⟩;have hgc:=grownCap_ge w (len+new.length) cap e
       have hsz:(((List.range (len*ie.size)).map us0).toArray++news.toArray++Builtin.zeroCells z.cells (grownCap w (len+new.length) cap e-(len+new.length))).size=(grownCap w (len+new.length) cap e)*ie.size:=by
        simp only[qZ,qm,dN,List.length_range,size_zeroCells,hzs,hnl];rw[←cu,←cu]
        congr 1;omega
       have hst:=yb hS1 (cs:=cs.take (len*ie.size)++new.flatMap PV.cells)
        (us:=((List.range (len*ie.size)).map us0).toArray++news.toArray++Builtin.zeroCells z.cells (grownCap w (len+new.length) cap e-(len+new.length))) (t:=e) (len:=len+new.length) (sz:=ie.size)
        (cap:=grownCap w (len+new.length) cap e) (w':=w.drew.alloc (.cells (((List.range (len*ie.size)).map us0).toArray++news.toArray++Builtin.zeroCells z.cells (grownCap w (len+new.length) cap e-(len+new.length))) e))
        rfl rfl rfl rfl (by
         rw[hsz,ak,htl,hflatn,←cu];exact gM _ (by omega)) (by omega) (by rw[hsz];exact aR _)
        (fun j c hc=>by
         rcases iH j (len*ie.size)with hj|hj
         ·rw[aw (by rw[htl];exact hj),cT hj]at hc;refine⟨us0 j,?_,(hus0 j c hc).2⟩;rw[gc (by simp;omega),gc (by simpa using hj)];simp[hj]
         ·rw[eH (by rw[htl];exact hj),htl]at hc;obtain⟨x,hx,hr'⟩:=hnv _ c hc;refine⟨x,?_,hr'⟩;have hjl:=(aL.1 hx).1;rw[gc (by simp;omega),zC (by simpa using hj)];simpa using hx)
       simp only[hl1]at hst;exact hst
    ·cases h
   ·cases h
  ·cases h
end
end Ps
