/- A variable that is made without an order, and filled behind all else of its region. -/
import Derived.Test.YtpjmpaidcidjgaaGreatDoorAbbKt
import Derived.Test.YtpjmpaidcidjgaaGreatDoorSimMeKt
set_option linter.defProp false
namespace Ps
set_option linter.unusedVariables false
set_option linter.unusedSimpArgs false
open Go
section
variable {X : Tie} {g : Gh} {w w' : World} {n : Dn} {fr : Fr} {a : Act} {S : St}
structure sK(g:Gh)(w:World)(g':Gh)(w':World):Prop where
 obj:∀id b,g.obj id=some b→g'.obj id=some b
 arr:∀b x,g.arr b=some x→g'.arr b=some x
 asz:∀id n,g.asz id=some n→g'.asz id=some n
 pub:∀b,g.pub b≤g'.pub b
 cell:∀b j,j<g.pub b→w'.cell? ⟨b,j,none⟩=w.cell? ⟨b,j,none⟩
 shape:∀(b:Nat) (us:Array Value) (t:TypeId) (fz:Nat×Nat),w.heap[b]?=some (.cells us t fz)→∃us',w'.heap[b]?=some (.cells us' t fz)∧us'.size=us.size
 mp:∀id b,g.mp id=some b→g'.mp id=some b
def kp.monoV{g g':Gh}{w w':World}(h:sK g w g' w'){b n:Nat}(r:kp w b n):kp w' b n:=by
 obtain⟨us,t,lo,hi,e,hn,hf⟩:=r;obtain⟨us',e',s'⟩:=h.shape b us t (lo,hi) e;exact⟨us',t,lo,hi,e',by omega,by omega⟩
def VR.monoV{g g':Gh}{w w':World}(h:sK g w g' w'){v:PV}{u:Value}(r:VR X g w v u):VR X g' w' v u:=by
 induction r with
 |und u=>exact .und u
 |int k n=>exact .int k n
 |bool b=>exact .bool b
 |str s=>exact .str s
 |nilp=>exact .nilp
 |nils=>exact .nils
 |nili=>exact .nili
 |nilf=>exact .nilf
 |ptr id off b e=>exact .ptr id off b (h.obj _ _ e)
 |ref cs b o us hpub hc _ ih=>
  exact .ref cs b o us (Nat.le_trans hpub (h.pub b)) (fun j hj=>by rw[h.cell b (o+j) (by omega)];exact hc j hj) ih
 |sl tip es sp b o cap sz us hcap hpos hsz hpub hc _ hlink hone ih=>
  refine .sl tip es sp b o cap sz us hcap hpos hsz (Nat.le_trans hpub (h.pub b)) (fun j hj=>by rw[h.cell b (o+j) (by omega)];exact hc j hj) ih ?_ hone;intro id e ht hs;obtain⟨h1,h2,h3⟩:=hlink id e ht hs;refine⟨h1,h.asz _ _ h2,?_⟩;rcases h3 with h3|⟨base,h4,h5,h6⟩
  ·exact .inl h3
  ·exact .inr ⟨base,h.arr _ _ h4,h5,h6.monoV h⟩
 |slz a=>exact .slz a
 |osl id off len sz cap b e hl hr=>exact .osl id off len sz cap b (h.obj _ _ e) hl (fun q=>(hr q).monoV h)
 |emp a=>exact .emp a
 |iface t v u _ ih=>exact .iface t v u ih
 |agg cs us hl _ ih=>exact .agg cs us hl ih
 |tup cs us hl _ ih=>exact .tup cs us hl ih
 |fn f cs us hl _ ih=>exact .fn f cs us hl ih
 |nilm=>exact .nilm
 |map id b e=>exact .map id b (h.mp _ _ e)
 |hnd b=>exact .hnd b
 |bfn f cs us hl _ ih=>exact .bfn f cs us hl ih
structure mL(g:Gh)(w w0:World)(b:Nat)(sz:Nat):Prop where
 priv:mF g w b
 pub:g.pub b=0
 new:w0.heap.size≤b
 cells:∃us t,w.heap[b]?=some (.cells us t (0,0))∧us.size=sz
def mL.le{g':Gh}{w0:World}{b sz:Nat}(h:mL g w w0 b sz)(hle:Le g w g' w'):mL g' w' w0 b sz:=by
 obtain⟨h1,h2⟩:=h.priv.le hle;refine⟨h1,?_,h.new,by rw[h2];exact h.cells⟩;rw[hle.pubN b h.priv.lt h.priv.obj h.priv.arr h.priv.mp];exact h.pub
def XK{g0:Gh}{w0:World}{S0:St}(hS0:SR X g0 S0 w0)(hle:Le g0 w0 g w)(hS:SR X g S w){b sz:Nat}(hf:mL g w w0 b sz){cs:List PV}{xs:Array Value}(hv:bD X g w cs xs)(hone:cs.all PV.one=true)(hsz:cs.length=sz) :
  ∃w' g',(storeCells ⟨b,0,none⟩ xs.toList).run X.P w=.ok () w'∧Le g0 w0 g' w'∧sK g w g' w'∧SR X g' {S with objs:=S.objs++[cs]} w'∧g'.obj S.objs.length=some b:=by
 obtain⟨us,t,hb,hus⟩:=hf.cells;have hxl:xs.toList.length=sz:=by rw[ii,←hv.1,hsz]
 obtain⟨w',us',s1,s2⟩:=pn X.P b 0 t 0 0 xs.toList 0 w us hb (.inl (aR _)) (by omega) (fun x hx=>by
  obtain⟨j,hj,rfl⟩:=iF hx;have hj':j<cs.length:=by rw[hsz,←hxl];exact hj
  exact(hv.2 j cs[j] _ (bK hj') (by simp)).one ((List.all_eq_true.1 hone) _ (fK hj')))
 have hnew:=tC hS;have hol:=kD hS;let g':Gh:={g with obj:=fun i=>if i=S.objs.length then some b else g.obj i};have hoth:∀b',b'≠b→w'.heap[b']?=w.heap[b']?:=s2.other
 have hobj:∀id c,g.obj id=some c→g'.obj id=some c:=fun id c h=>by
  simp only[g'];rw[if_neg (fun e=>by subst e;rw[hnew]at h;cases h)];exact h
 have hlev:sK g w g' w':={
  obj:=hobj,arr:=fun _ _ h=>h,asz:=fun _ _ h=>h,pub:=fun _=>aR _
  cell:=fun b' j hj=>by
   have:b'≠b:=fun e=>by subst e;rw[hf.pub]at hj;omega
   simp only[World.cell?,hoth b' this]
  shape:=fun b' us1 t1 fz h=>by
   by_cases e:b'=b
   ·subst e;rw[hb]at h;cases h;exact⟨us',s2.block,s2.len⟩
   ·exact⟨us1,by rw[hoth b' e];exact h,rfl⟩
  mp:=fun _ _ h=>h}
 have hne0:∀b',b'<w0.heap.size→b'≠b:=fun b' h e=>by have:=hf.new;omega
 have hle':Le g0 w0 g' w':={
  os:=s2.os.trans hle.os,tape:=s2.tape.trans hle.tape,output:=s2.output.trans hle.output
  size:=by rw[s2.size];exact hle.size
  obj:=fun id c h=>hobj id c (hle.obj id c h)
  arr:=hle.arr,asz:=hle.asz,pub:=hle.pub
  cell:=fun b' j hj=>by
   rw[←hle.cell b' j hj];exact hlev.cell b' j (im hj (hle.pub b'))
  shape:=fun b' us1 t1 fz h=>by
   obtain⟨us2,h1,h2⟩:=hle.shape b' us1 t1 fz h;obtain⟨us3,h3,h4⟩:=hlev.shape b' us2 t1 fz h1;exact⟨us3,h3,h4.trans h2⟩
  objN:=fun id c h=>by
   simp only[g']at h;split at h
   ·cases h;exact .inr hf.new
   ·exact hle.objN id c h
  arrN:=hle.arrN
  keep:=fun b' h1 h2 h3 h4=>by rw[hoth b' (hne0 b' h1)];exact hle.keep b' h1 h2 h3 h4
  pubN:=hle.pubN,mp:=hle.mp,mpN:=hle.mpN
  mf:=fun b' es c h1 h2=>by
   obtain⟨q1,q2⟩:=hle.mf b' es c h1 h2;exact⟨q1,by rw[hoth b' (hne0 b' (bc.1 h2).1)];exact q2⟩}
 have hlive:∀i c,g.obj i=some c→bt {S with objs:=S.objs++[cs]} i→bt S i:=by
  rintro i c h ⟨x,l,e⟩;simp only at e;rw[aw (hol i c h)]at e;exact⟨x,l,e⟩
 refine⟨w',g',s1,hle',hlev,⟨fun i c h=>?_,fun i j c h1 h2 hl=>?_,fun i c h=>?_,hS.arr,hS.asz,fun c hc=>hS.lt c (by rw[s2.size]at hc;exact hc),hS.maps.of (fun _ _ h=>h) (fun i c h=>?_) (fun i c h=>hoth c (fun e=>?_)) (fun c u r=>r.monoV hlev) (fun _ _ _=>⟨rfl,rfl⟩) (fun i c d h h2=>?_),fun q hq=>?_⟩,by simp[g']⟩
 ·simp only[g']at h;split at h
  ·rename_i e;subst e;cases h;refine⟨cs,us',t,by simp,⟨_,s2.block,.inl (aR _)⟩,by rw[s2.len,hus,hsz];exact aR _,fun j c u e1 e2=>?_⟩;have hj:j<cs.length:=(aL.1 e1).1;rw[s2.get j,if_pos ⟨by omega,by omega⟩]at e2;simp only[eo,tx,jS]at e2;exact(hv.2 j c u e1 e2).monoV hlev
  ·obtain⟨cs',us1,t1,q1,q2,q3,q4⟩:=hS.obj i c h;have hcb:c≠b:=fun e=>hf.priv.obj i (by rw[h,e]);exact⟨cs',us1,t1,by simp only;rw[aw (aL.1 q1).1];exact q1,by rw[hoth c hcb];exact q2,q3,fun j c u e1 e2=>(q4 j c u e1 e2).monoV hlev⟩
 ·simp only[g']at h1 h2;split at h1<;>split at h2
  ·omega
  ·cases h1;exact absurd h2 (hf.priv.obj j)
  ·cases h2;exact absurd h1 (hf.priv.obj i)
  ·exact hS.inj i j c h1 h2 (hlive j c h2 hl)
 ·simp only[g']at h;split at h
  ·cases h;exact⟨fun _=>hf.pub,hf.priv.arr⟩
  ·exact⟨fun hl=>(hS.objpub i c h).1 (hlive i c h hl),(hS.objpub i c h).2⟩
 ·obtain⟨_,_,_,q,_⟩:=hS.maps.ent i c h;simp only;rw[aw (aL.1 q).1]
 ·exact hf.priv.mp i (by rw[h,e])
 ·simp only[g']at h2;split at h2
  ·rename_i e;obtain⟨_,_,_,q,_⟩:=hS.maps.ent i c h;have:=(aL.1 q).1;omega
  ·exact h2
 ·obtain⟨p1,p2⟩:=hS.gl q hq;obtain⟨p3,_⟩:=hS0.gl q hq;have hqb:q.1≠b:=hne0 _ p3.lt;refine⟨⟨by rw[s2.size];exact p1.lt,fun id e=>?_,p1.arr,p1.mp⟩,by rw[←p2];simp only[World.cell?,hoth _ hqb]⟩;simp only[g']at e;split at e
  ·cases e;exact hqb rfl
  ·exact p1.obj id e
def sL(P:Program)(d m:Nat)(o:Oper):Bool:=
 o.dst==some d&&o.guard.isNone&&(match o.op with
  |.alloc t=>(match P.info? t with|some i=>(match i.zero with|some z=>z.cells.size==m|none=>false)|none=>false)
  |_=>false)
def XL{P:Program}{d m:Nat}{o:Oper}(h:sL P d m o=true):o.dst=some d∧o.guard=none∧∃us:Array Value,us.size=m∧∃t,(execOp a.eval o).run P w=.ok (.value (.pointer (some ⟨w.heap.size,0,none⟩))) (w.alloc (.cells us t)):=by
 unfold sL at h;simp only[aI,beq_iff_eq,oS]at h;obtain⟨⟨h1,h2⟩,h3⟩:=h;refine⟨h1,h2,?_⟩;split at h3
 ·rename_i t ht;split at h3
  ·rename_i i hi;split at h3
   ·rename_i z hz;refine⟨z.cells,by simpa using h3,t,?_⟩
    cases o with
    |mk dst op ty pos after guard=>
     simp only at ht;subst ht;simp[execOp,Instr.alloc,newVar,newRow,zeroValue,typeInfo,hi,hz]
   ·cases h3
  ·cases h3
 ·cases h3
def XM{w0:World}(hS:SR X g S w){us:Array Value}{t:TypeId}(hw0:w0.heap.size≤w.heap.size):Le g w g (w.alloc (.cells us t))∧SR X g S (w.alloc (.cells us t))∧mL g (w.alloc (.cells us t)) w0 w.heap.size us.size:=by
 have hle:Le g w g (w.alloc (.cells us t)):=lB rfl rfl rfl rfl hS.lt
  (fun _ _ h=>h) (fun _ _ h=>.inl h)
  (fun _ _ h=>h) (fun _ _ h=>.inl h) (fun _ _ h=>h) (fun _ _=>rfl) (fun _ _ h=>h) (fun _ _ h=>.inl h)
 have hbl:∀i b,g.obj i=some b→b<w.heap.size:=fun i b h=>by
  obtain⟨_,_,_,_,⟨_,h2,_⟩,_⟩:=hS.obj i b h;exact(bc.1 h2).1
 refine⟨hle,⟨fun i b h=>?_,hS.inj,hS.objpub,hS.arr,hS.asz,fun b hb=>hS.lt b (by simp at hb;omega),hS.maps.of (fun _ _ h=>h) (fun _ _ _=>rfl) (fun i b h=>by
    have:=hS.maps.lt h;rw[World.alloc,cj,if_neg (by omega)]) (fun c u r=>r.mono hle) (fun _ _ _=>⟨rfl,rfl⟩) (fun _ _ _ _ h=>h),hS.gl.le hle⟩,⟨⟨im (Nat.lt_succ_self _) (tu (by simp)),fun id e=>?_,(hS.lt _ (aR _)).2,fun id e=>?_⟩,(hS.lt _ (aR _)).1,hw0,us,t,?_,rfl⟩⟩
 ·obtain⟨cs,us',t',h1,h2,h3,h4⟩:=hS.obj i b h;refine⟨cs,us',t',h1,?_,h3,fun j c u e1 e2=>(h4 j c u e1 e2).mono hle⟩;rw[World.alloc,cj,if_neg (by have:=hbl i b h;omega)];exact h2
 ·have:=hbl id _ e;omega
 ·have:=hS.maps.lt e;omega
 ·rw[World.alloc,cj,if_pos rfl]
set_option maxHeartbeats 1000000 in
def XN{call:aX}(hty:dv X)(hM:eC X)(hC:cW X call){ops:Array Oper}{ql:List (Nat×aA)}{lo hi fuel0 j0 d m:Nat}{w0:World}{Q:Exit→Act→World→Prop}{fr':Fr}{S':St}
  (hget:∀x∈ql,lo≤x.1∧x.1<hi∧∃o,ops[x.1]?=some o∧dL X n ops o x.2=true)(hcov:∀i,lo≤i→i<hi→i=j0∨∃p,(i,p)∈ql)(hnd:(ql.map (·.1)).Nodup)(hback:fF ops.toList 0=true)(hbar:jx ops lo hi=true)
  (hj0:lo≤j0∧j0<hi)(hjn:∀x∈ql,x.1≠j0)(hdq:∀x∈ql,d∉x.2.reads∧x.2.dst≠some d){o0:Oper}(ho0:ops[j0]?=some o0)(hca:sL X.P d m o0=true)(hdn0:d<n)
  (hpw:ql.Pairwise fun x y=>((dY ops.toList []).getD y.1 0).testBit x.1=true∨fE x.2 y.2=true):∀(r:Nat) (listed:Array Bool) (g:Gh) (w:World) (fr:Fr) (S:St) (a:Act),
  w0.heap.size≤w.heap.size→SR X g S w→FR X n g w fr a→(listed.getD j0 true=true→∃b,fr d=.hnd b∧mL g w w0 b m)→listed.size=ops.size→lF ops listed→(∀j,j<lo→listed.getD j true=true)→(∀j,hi≤j→j<ops.size→listed.getD j true=false)→(bS ql listed).length+(if listed.getD j0 true=true then 0 else 1)=r→(∃fr1,aY X.T call ((bS ql listed).map (·.2)) fr S=some (fr1,S')∧∀t,t≠d→fr1 t=fr' t) →
  (∀g' w' a' listed' fr1,Le g w g' w'→SR X g' S' w'→FR X n g' w' fr1 a'→(∀t,t≠d→fr1 t=fr' t)→(∃b,fr1 d=.hnd b∧mL g' w' w0 b m)→lE ops listed' hi→wpAny X.P .any ops Q fuel0 listed' a' w')→wpAny X.P .any ops Q (r+fuel0) listed a w:=by
 have hmr:=mY ops.toList ops.toList [] (by simp) (fun i m h=>by simp at h);obtain⟨b1,b2,b3⟩:=mT hbar;intro r
 induction r with
 |zero=>
  intro listed g w fr S a hw0 hS hF hFr hsz hdn hlo hhi hr ⟨frE,h,hE⟩ hQ;have hnil:bS ql listed=[]:=fW.1 (by omega)
  have hl0:listed.getD j0 true=true:=by
   cases hl:listed.getD j0 true with
   |true=>rfl
   |false=>rw[hl]at hr;simp at hr
  rw[hnil]at h;simp only[lR,aY,ae,ba]at h;obtain⟨rfl,rfl⟩:=h;rw[cd];refine hQ g w a listed _ (Le.refl g w) hS hF hE (hFr hl0) ⟨hsz,fun j hj=>?_,hhi⟩;by_cases e:j<lo
  ·exact hlo j e
  ·rcases hcov j (by omega) hj with rfl|⟨p,hp⟩
   ·exact hl0
   have:=oO.1 hnil (j,p) hp
   simpa using this
 |succ r ih=>
  intro listed g w fr S a hw0 hS hF hFr hsz hdn hlo hhi hr ⟨frE,h,hE⟩ hQ;rw[Nat.add_right_comm]
  have hin:∀i,i∈Region.ready .any ops listed→lo≤i∧i<hi:=by
   intro i hi';obtain⟨h1,h2,o,ho,h3⟩:=dw.1 hi'
   have e1:lo≤i:=by
    by_cases e:lo≤i
    ·exact e
    ·rw[hlo i (by omega)]at h2;cases h2
   refine⟨e1,?_⟩;by_cases e:i<hi
   ·exact e
   ·exfalso;by_cases e2:i=hi
    ·subst e2
     cases hl:listed.getD j0 true with
     |false=>
      have:=h3 j0 (b2 o ho j0 hj0.1 hj0.2);rw[←jN (by omega),hl]at this
      cases this
     |true=>
      obtain⟨x,hx⟩:∃x,x∈bS ql listed:=by
       cases hq:bS ql listed with
       |nil=>rw[hq,hl]at hr;simp at hr
       |cons x l=>exact⟨x,by simp⟩
      obtain⟨hx1,hx2⟩:=jU.1 hx;obtain⟨q1,q2,_⟩:=hget x hx1;have:=h3 x.1 (b2 o ho x.1 q1 q2);rw[←jN (by omega)]at this;simp[this]at hx2
    ·have:=h3 hi (b3 i o (by omega) ho);rw[←jN (by omega),hhi hi (aR _) b1]at this;cases this
  refine⟨fun hrd=>?_,fun i hi'=>?_⟩
  ·exfalso
   have hall:∀k,k<ops.size→listed.getD k true=true:=by
    intro k
    induction k using Nat.strongRecOn with
    |_ k ih=>
     intro hk
     cases hl:listed.getD k true with
     |true=>rfl
     |false=>
      have:k∈Region.ready .any ops listed:=dw.2 ⟨hk,hl,ops[k],by simp[hk],fun d hd=>by
       have hdk:d<k:=by
        have:=jz hback k ops[k] (by simp[hk]) d hd;omega
       rw[←jN (by omega)];exact ih d hdk (by omega)⟩
      rw[hrd]at this;cases this
   have:=hall hi b1;rw[hhi hi (aR _) b1]at this;cases this
  ·obtain⟨z1,z2⟩:=hin i hi';obtain⟨h1,h2,o,ho,h3⟩:=dw.1 hi'
   have hdn':lF ops (listed.setIfInBounds i true):=by
    intro k o' ho' hk d hd
    have hdl:listed.getD d false=true:=by
     by_cases hki:k=i
     ·subst hki;rw[ho]at ho';cases ho';exact h3 d hd
     ·refine hdn k o' ho' ?_ d hd;rw[iU hki]at hk;exact hk
    by_cases hdi:d=i
    ·subst hdi;exact si (by omega)
    ·rw[iU hdi];exact hdl
   have hlo':∀j,j<lo→(listed.setIfInBounds i true).getD j true=true:=fun j hj=>by rw[iU (by omega)];exact hlo j hj
   have hhi':∀j,hi≤j→j<ops.size→(listed.setIfInBounds i true).getD j true=false:=fun j hj hl=>by rw[iU (by omega)];exact hhi j hj hl
   by_cases hij:i=j0
   ·subst hij;rw[ho0]at ho;cases ho
    have hrq:bS ql (listed.setIfInBounds i true)=bS ql listed:=by
     rw[Oz (by omega)];refine jT.2 (fun x hx=>?_);have:=hjn x (jU.1 hx).1;simpa using this
    unfold wpOp;simp only[ho0];obtain⟨c1,c2,us,c3,c4⟩:=XL (w:=w) (a:=a) hca;have want:∀y,Region.wanted o0 y=true:=fun y=>by simp[Region.wanted,c2]
    rw[if_pos (want _)];left;unfold Oper.wp;obtain⟨t,c4⟩:=c4;rw[c4,Oper.upon_value,c1];obtain⟨hle1,hS1,hf1⟩:=XM hS (us:=us) (t:=t) hw0;rw[c3]at hf1
    have hpu:aY X.T call ((bS ql listed).map (·.2)) (aO fr (some d) (.hnd w.heap.size)) S=some (aO frE (some d) (.hnd w.heap.size),S'):=
     se (fun p hp=>by
      obtain⟨x,hx,rfl⟩:=List.mem_map.1 hp;exact hdq x (jU.1 hx).1) h
    refine ih _ g _ (aO fr (some d) (.hnd w.heap.size)) S _ (Nat.le_trans hw0 hle1.size) hS1 ((hF.mono hle1).put (fun t e=>by cases e;exact hdn0) (.hnd w.heap.size)) (fun _=>⟨_,by simp[aO,cg],hf1⟩) (by simpa using hsz) hdn' hlo' hhi' ?_ ⟨_,by rw[hrq];exact hpu,fun t ht=>by simp[aO,cg,ht];exact hE t ht⟩
     (fun g2 w2 a2 l2 fr2 hle2 hS2 hF2=>hQ g2 w2 a2 l2 fr2 (hle1.trans hle2) hS2 hF2)
    rw[hrq,si (by omega)];rw[h2]at hr;simp at hr ⊢;omega
   obtain⟨q,hq⟩:=(hcov i z1 z2).resolve_left hij;obtain⟨_,_,o',ho',hcq⟩:=hget _ hq;simp only at ho';rw[ho]at ho';cases ho';obtain⟨pre,post,e1,e2,e3⟩:=lG hnd hpw hq h2 (by omega)
   have hind:∀p∈pre,fE p.2 q=true:=by
    intro p hp;obtain⟨hb|hb,hj3⟩:=e3 p hp
    ·exfalso
     have hil:i<(dY ops.toList []).length:=by
      by_cases hil:i<(dY ops.toList []).length
      ·exact hil
      ·rw[cH,cr (by omega)]at hb;simp at hb
     have hr:=hmr i _ (bK hil) p.1 (by rw[cH,bK hil]at hb;exact hb);have hjl:=nv hdn hsz hr (fun o' ho' d hd=>by rw[ho]at ho';cases ho';exact h3 d hd)
     have hjs:p.1<listed.size:=by
      by_cases hjs:p.1<listed.size
      ·exact hjs
      ·simp[Array.getD,hjs]at hj3
     simp[Array.getD,hjs]at hjl hj3;rw[hjl]at hj3;cases hj3
    ·exact hb
   rw[e1,dp,cB]at h
   have hsw:=px (by
    intro p hp;obtain⟨x,hx,rfl⟩:=List.mem_map.1 hp;exact hind x hx) h
   unfold wpOp;simp only[ho];have hgj:(listed.setIfInBounds i true).getD j0 true=listed.getD j0 true:=iU (Ne.symm hij);simp only[ij]at hsw;rw[cX]at hsw
   cases hp1:av X.T call q fr S with
   |none=>rw[hp1]at hsw;cases hsw
   |some vS=>
   obtain⟨v1,S1⟩:=vS;rw[hp1]at hsw
   have:=kA hty hM hC (Q:=Q) (K:=wpAny X.P .any ops Q (r+fuel0) (listed.setIfInBounds i true)) (l:=[]) (r:=(aO fr q.dst v1,S1)) hcq hS hF (by rw[cX,hp1];rfl) (fun g1 w1 a1 fr1 S1' hle1 hS1 hF1 h1'=>by
    simp only[aY,ae,ba]at h1';obtain⟨rfl,rfl⟩:=h1';refine ih _ g1 w1 (aO fr q.dst v1) S1' a1 (Nat.le_trans hw0 hle1.size) hS1 hF1 (fun hl=>?_) (by simpa using hsz) hdn' hlo' hhi' ?_ ⟨_,by rw[e2,dp];exact hsw,hE⟩ (fun g2 w2 a2 l2 fr2 hle2 hS2 hF2=>hQ g2 w2 a2 l2 fr2 (hle1.trans hle2) hS2 hF2)
    ·rw[hgj]at hl;obtain⟨b,k1,k2⟩:=hFr hl;exact⟨b,by rw[jw (hdq _ hq).2];exact k1,k2.le hle1⟩
    ·rw[e2,hgj];rw[e1]at hr;simp at hr ⊢;omega)
   split
   ·rename_i hw;rw[if_pos hw]at this;exact .inl this
   ·rename_i hw;rw[if_neg hw]at this;exact this
def xj(X:Tie)(n:Nat)(ops:Array Oper)(ps:List aA):Bool:=
 match ps.getLast?,ops[ops.size-1]? with
 |some pl,some os=>(match pl.op,os.op,pl.dst with
  |.nst m x,.store t (.tmp d) xo,some d'=>
   let j:=(ops.toList.takeWhile fun o=>o.dst != some d).length
   d==d'&&pl.guard.isNone&&os.guard.isNone&&os.dst==none&&decide (d<n)&&aK X xo x&&(match x with|.tmp a=>a != d|_=>false)&&decide (0<ops.size)&&decide (j<ops.size-1)&&decide (ps.length=ops.size)&&fF ops.toList 0&&jx ops 0 (ops.size-1) &&
    (match X.P.info? t with|some i=>i.size==m|none=>false) &&
    (match ops[j]? with|some o=>sL X.P d m o|none=>false) &&
    (match ps.dropLast.drop j with
    |⟨some d1,.mov (.cst .und),none⟩::q=>d1==d&&(ps.dropLast.take j++q).all (fun p=>!p.reads.contains d&&p.dst != some d)&&(match kB X n ops ((List.range (ops.size-1)).filter fun i=>i != j) (ps.dropLast.take j++q)with
     |some ql=>nw (dY ops.toList []) ql
     |none=>false)
    |_=>false)
  |_,_,_=>false)
 |_,_=>false
set_option maxHeartbeats 1000000 in
def XO{call:aX}(hty:dv X)(hM:eC X)(hC:cW X call)(hmix:X.P.follows .mixedOrders=true){ops:Array Oper}{ps:List aA}(hc:xj X n ops ps=true)(hS:SR X g S w)(hF:FR X n g w fr a){fr':Fr}{S':St}(hp:aY X.T call ps fr S=some (fr',S'))
  {Q:Exit→Act→World→Prop}(hQ:∀g' w' a',Le g w g' w'→SR X g' S' w'→FR X n g' w' fr' a'→Q .normal a' w')(id:Nat):(Code.region id ops true).wp X.P Q a w:=by
 unfold xj at hc;split at hc
 rotate_left
 ·cases hc
 rename_i pl os hpl hos;split at hc
 rotate_left
 ·cases hc
 rename_i m x t d xo d' e1 e2 e3;generalize hj0:(ops.toList.takeWhile fun o=>o.dst != some d).length=j at hc;simp only[aI,decide_eq_true_eq,beq_iff_eq,oS]at hc;obtain⟨⟨⟨⟨⟨⟨⟨⟨⟨⟨⟨⟨⟨⟨rfl,c2⟩,c3⟩,c4⟩,c5⟩,c6⟩,c7⟩,c8⟩,c9⟩,c10⟩,hback⟩,hbar⟩,c11⟩,c12⟩,hc⟩:=hc;split at c7
 rotate_left
 ·cases c7
 rename_i xa;have hxd:xa≠d:=by simpa using c7
 split at c12
 rotate_left
 ·cases c12
 rename_i o0 ho0;split at hc
 rotate_left
 ·cases hc
 rename_i d1 q hdrop;simp only[aI,beq_iff_eq]at hc;obtain⟨⟨rfl,hdq⟩,hc⟩:=hc;split at hc
 rotate_left
 ·cases hc
 rename_i ql hql
 have hps:ps=ps.dropLast++[pl]:=by
  obtain⟨ys,hys⟩:=td.1 hpl;rw[hys];simp
 have hps2:ps.dropLast=ps.dropLast.take j++⟨some d1,.mov (.cst .und),none⟩::q:=by rw[←hdrop,kI]
 have hlen2:ps.dropLast.length=ops.size-1:=by rw[List.length_dropLast,c10]
 generalize ps.dropLast=pd at hps hps2 hdq hql hlen2;subst hps;have hAl:(pd.take j).length=j:=List.length_take_of_le (by omega);generalize pd.take j=A at hps2 hdq hql hAl;subst hps2;have hpl':pl=⟨some d1,.nst m (.tmp xa),none⟩:=by cases pl;simp only at e1 e3 c2;subst e1 e3 c2;rfl
 subst hpl'
 have hdq':∀p∈A++q,d1∉p.reads∧p.dst≠some d1:=fun p hp=>by
  have:=List.all_eq_true.1 hdq p hp;simpa using this
 have hnd0:((List.range (ops.size-1)).filter fun i=>i != j).Nodup:=mo.filter _;obtain⟨q1,q2,q3⟩:=qE hnd0 hql;have hnd:(ql.map (·.1)).Nodup:=q2.nodup_iff.2 hnd0
 have hmem:∀i,i∈ql.map (·.1)↔i<ops.size-1∧i≠j:=fun i=>by
  rw[q2.mem_iff];simp
 obtain⟨frL,SL,hpd,hlast⟩:=nl hp
 have hmid:∃fr1,aY X.T call (A++q) fr S=some (fr1,SL)∧∀t,t≠d1→fr1 t=frL t:=by
  obtain⟨frA,SA,hA,hq⟩:=nl hpd;rw[cX]at hq;simp only[av,bW,aH,aQ,ev,ck,aO]at hq;have hq':=se (u:=frA d1) (fun p hp=>hdq' p (by simp[hp])) hq
  have e:aO (upd frA d1 .und) (some d1) (frA d1)=frA:=by
   funext t;simp only[aO,cg];split<;>simp_all
  rw[e]at hq';exact⟨_,yN hA hq',fun t ht=>by simp[aO,cg,ht]⟩
 rw[cX]at hlast;simp only[av,bW,aH,jM]at hlast;split at hlast
 rotate_left
 ·cases hlast
 rename_i vL SE hst
 replace hst:(if(frL xa).cells.length=m∧(frL xa).cells.all PV.one=true then some (cR SL (frL xa).cells)else none)=some (vL,SE):=hst
 split at hst
 rotate_left
 ·cases hst
 rename_i hcell;obtain⟨hc1,hc2⟩:=hcell;simp only[cR,ae,ba]at hst;obtain⟨rfl,rfl⟩:=hst;simp only[aY,aO,ae,ba]at hlast;obtain⟨rfl,rfl⟩:=hlast;refine wp_region_any hmix ?_;have hw:∀{g':Gh} {w':World},Le g {w with drawn:=w.drawn+1} g' w'→Le g w g' w':=fun h=>⟨h.os,h.tape,h.output,h.size,h.obj,h.arr,h.asz,h.pub,h.cell,h.shape,h.objN,h.arrN,h.keep,h.pubN,h.mp,h.mpN,h.mf⟩
 have hle:Le g w g {w with drawn:=w.drawn+1}:=⟨rfl,rfl,rfl,aR _,fun _ _ h=>h,fun _ _ h=>h,fun _ _ h=>h,fun _=>aR _,fun _ _ _=>rfl,fun _ us _ _ h=>⟨us,h,rfl⟩,
  fun id _ h=>.inl ⟨id,h⟩,fun _ _ h=>.inl h,fun _ _ _ _ _=>rfl,fun _ _ _ _ _=>rfl,fun _ _ h=>h,fun _ _ h=>.inl h,fun _ _ _ h e=>⟨h,e⟩⟩
 have hS':SR X g S {w with drawn:=w.drawn+1}:=⟨fun id b hb=>by
  obtain⟨cs,us,t,h1,h2,h3,h4⟩:=hS.obj id b hb;exact⟨cs,us,t,h1,h2,h3,fun j c u e1 e2=>(h4 j c u e1 e2).mono hle⟩,hS.inj,hS.objpub,hS.arr,hS.asz,hS.lt,hS.maps.of (fun _ _ h=>h) (fun _ _ _=>rfl) (fun _ _ _=>rfl) (fun c u r=>r.mono hle) (fun _ _ _=>⟨rfl,rfl⟩) (fun _ _ _ _ h=>h),hS.gl.le hle⟩
 generalize ({w with drawn:=w.drawn+1}:World)=wd at hw hle hS';have hjl:Array.getD (Array.replicate ops.size false) j true=false:=by simp[Array.getD];omega
 have hrest:bS ql (Array.replicate ops.size false)=ql:=by
  unfold bS;refine jT.2 (fun x hx=>?_);have:=(hmem x.1).1 (List.mem_map.2 ⟨x,hx,rfl⟩);have hx1:x.1<ops.size:=by omega
  simp[Array.getD,hx1]
 have hqlen:ql.length=ops.size-2:=by
  have:=congrArg List.length q1;simp only[dN,ak,bE]at this hlen2;omega
 have hsz:ops.size=(ql.length+1)+(1+0):=by omega
 refine(congrArg (fun N=>wpAny X.P .any ops Q N (Array.replicate ops.size false) a wd) hsz).mpr ?_
 refine XN (d:=d1) (m:=m) (w0:=wd) (lo:=0) (hi:=ops.size-1) (j0:=j) (fr':=frL) (S':=SL) hty hM hC (fun x hx=>?_) (fun i h1 h2=>?_) hnd hback hbar ⟨bh _,c9⟩ (fun x hx=>((hmem x.1).1 (List.mem_map.2 ⟨x,hx,rfl⟩)).2) (fun x hx=>hdq' x.2 (by rw[←q1];exact List.mem_map.2 ⟨x,hx,rfl⟩)) ho0 c12 c5 (sq hc)
  _ _ g wd fr S a (aR _) hS' (hF.mono hle) (fun h=>by rw[hjl]at h;cases h) (by simp) ?_ (fun j hj=>absurd hj (Nat.not_lt_zero j)) (fun i _ hi=>by simp[Array.getD,hi]) (by rw[hrest,hjl];simp) (by rw[hrest,q1];exact hmid) (fun g1 w1 a1 l1 fr1 hle1 hS1 hF1 hE1 hfr1 hu1=>?_)
 ·have:=(hmem x.1).1 (List.mem_map.2 ⟨x,hx,rfl⟩);exact⟨bh _,this.1,q3 x hx⟩
 ·by_cases e:i=j
  ·exact .inl e
  ·obtain⟨x,hx,rfl⟩:=List.mem_map.1 ((hmem i).2 ⟨h2,e⟩);exact .inr ⟨x.2,hx⟩
 ·intro i o ho hi d hd;have hi2:=(bc.1 ho).1;simp[Array.getD,hi2]at hi
 have hrd:=yQ hback hbar hu1;have hi1:=(mT hbar).1;refine yR (fun hr=>by have:=(hrd _).2 rfl;rw[hr]at this;cases this) (fun k hk=>?_);obtain rfl:=(hrd k).1 hk;unfold wpOp;simp only[hos];have want:∀y,Region.wanted os y=true:=fun y=>by simp[Region.wanted,c3]
 rw[if_pos (want _)];left;obtain⟨b,hb1,hb2⟩:=hfr1;have rx:=af hF1 c6;rw[jM,hE1 xa hxd]at rx;have rd:=hF1.at_ d1;rw[hb1]at rd;generalize hxu:a1.eval xo=u at rx;obtain⟨xs,hxs⟩:∃xs:Array Value,xs=u.cells:=⟨_,rfl⟩;generalize hdu:a1.tmps.getD d1 undef=ud at rd;cases rd;have hv:=mO rx hc2;rw[←hxs]at hv;obtain⟨w2,g2,s1,s2,s3,s4,s5⟩:=XK hS' hle1 hS1 hb2 hv hc2 hc1
 have hsz2:(Go.sizeOf t).run X.P w1=.ok m w1:=by
  split at c11
  ·rename_i i hi;simp only[beq_iff_eq]at c11;simp[Go.sizeOf,typeInfo,hi,c11]
  ·cases c11
 have hrun:(execOp a1.eval os).run X.P w1=.ok .skip w2:=by
  cases os with
  |mk dst op ty pos after guard=>
   simp only at e2;subst e2;have hde:a1.eval (.tmp d1)=.pointer (some ⟨b,0,none⟩):=hdu;have hxl:xs.size=m:=by rw[←hv.1,hc1]
   simp only[execOp,hxu,hde,Instr.storeAt,Instr.sureAddr,Sem.run_bind,Sem.run_pure,Result.andThen_ok,storeVar,hsz2];rw[←hxs,if_neg (by simp;omega),s1];rfl
 unfold Oper.wp;rw[hrun,Oper.upon_skip,c4];have hu2:=hu1.step hi1;refine⟨?_,?_⟩
 ·rw[List.eq_nil_iff_forall_not_mem];intro i hi;obtain⟨h1,h2,_⟩:=dw.1 hi;rw[hu2.2.1 i (by omega)]at h2;cases h2
 ·refine hQ _ _ _ (hw s2) s4 ⟨hF1.size,fun t'=>?_,hF1.defers⟩;have r:=hF1.at_ t';simp only[cg];by_cases e:t'=d1
  ·subst e;rw[if_pos rfl];have hpt:(a1.put none undef).tmps.getD t' undef=.pointer (some ⟨b,0,none⟩):=hdu;rw[hpt];exact .ptr _ _ _ s5
  ·rw[if_neg e,←hE1 t' e];exact r.monoV s3
end
end Ps
