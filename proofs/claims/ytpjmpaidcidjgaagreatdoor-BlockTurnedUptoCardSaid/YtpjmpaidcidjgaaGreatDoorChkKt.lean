/- bk a pure text say what the model's text says? A check that the kernel runs. -/
import Derived.Test.YtpjmpaidcidjgaaGreatDoorAbbKt
import Derived.Test.YtpjmpaidcidjgaaGreatDoorDefsKt
import Derived.Below
import Derived.MapKept
set_option linter.defProp false
namespace Ps
open Go
structure Tie where
 P:Program
 T:aM
 fnOf:Nat→FuncId
 ty:Nat→TypeId
 mn:Nat→String
 gl:List (Nat×Value):=[]
structure Gh where
 obj:Nat→Option Nat
 arr:Nat→Option (Nat×Nat)
 asz:Nat→Option Nat
 pub:Nat→Nat
 mp:Nat→Option Nat:=fun _=>none
 mfz:Nat→Bool:=fun _=>false
def kp(w:World)(b n:Nat):Prop:=
 ∃us t lo hi,w.heap[b]?=some (.cells us t (lo,hi))∧n≤us.size∧(hi≤lo∨us.size≤lo)
inductive VR(X:Tie)(g:Gh)(w:World):PV→Value→Prop where
 |und (u:Value):VR X g w .und u
 |int (k:IntKind) (n:Int):VR X g w (.int k n) (.int k n)
 |bool (b:Bool):VR X g w (.bool b) (.bool b)
 |str (s:List UInt8):VR X g w (.str s) (.string ⟨s.toArray⟩)
 |nilp:VR X g w .nilp (.pointer none)
 |nils:VR X g w .nils (.slice none 0 0)
 |nili:VR X g w .nili .nilIface
 |nilf:VR X g w .nilf .nilFunc
 |ptr (id off b:Nat) (h:g.obj id=some b):VR X g w (.ptr id off) (.pointer (some ⟨b,off,none⟩))
 |ref (cs:List PV) (b o:Nat) (us:Nat→Value) (hpub:o+cs.length≤g.pub b)
   (hc:∀j,j<cs.length→w.cell? ⟨b,o+j,none⟩=some (us j)) (hv:∀(j:Nat) (c:PV),cs[j]?=some c→VR X g w c (us j)) :
   VR X g w (.ref cs) (.pointer (some ⟨b,o,none⟩))
 |sl (tip:Option (Nat×Nat)) (es sp:List PV) (b o cap sz:Nat) (us:Nat→Value) (hcap:es.length+sp.length≤cap) (hpos:0<sz)
   (hsz:∀e∈es++sp,e.cells.length=sz) (hpub:o+(es.length+sp.length)*sz≤g.pub b)
   (hc:∀j,j<(es.length+sp.length)*sz→w.cell? ⟨b,o+j,none⟩=some (us j))
   (hv:∀(j:Nat) (c:PV),((es++sp).flatMap PV.cells)[j]?=some c→VR X g w c (us j))
   (hlink:∀id e,tip=some (id,e)→sp=[]→es.length≤e∧g.asz id=some sz ∧
    ((cap=es.length∧(es=[]∨es.length<e))∨∃base,g.arr b=some (id,base)∧base+o+es.length*sz=e*sz∧kp w b (o+cap*sz)))
   (hone:∀e∈es++sp,e.cells.all PV.one=true) :
   VR X g w (.sl tip es sp) (.slice (some ⟨b,o,none⟩) es.length cap)
 |slz (a:Addr):VR X g w (.sl none [] []) (.slice (some a) 0 0)
 |osl (id off len sz cap b:Nat) (h:g.obj id=some b) (hl:len≤cap) (hr:0<sz→kp w b (off+cap*sz)):VR X g w (.osl id off len sz) (.slice (some ⟨b,off,none⟩) len cap)
 |emp (a:Addr):VR X g w .emp (.slice (some a) 0 0)
 |iface (t:Nat) (v:PV) (u:Value) (h:VR X g w v u):VR X g w (.iface t v) (.iface (X.ty t) u)
 |agg (cs:List PV) (us:Array Value) (hl:cs.length=us.size) (hv:∀(j:Nat) (c:PV) (u:Value),cs[j]?=some c→us[j]?=some u→VR X g w c u) :
   VR X g w (.agg cs) (.agg us)
 |tup (cs:List PV) (us:Array Value) (hl:cs.length=us.size) (hv:∀(j:Nat) (c:PV) (u:Value),cs[j]?=some c→us[j]?=some u→VR X g w c u) :
   VR X g w (.tup cs) (.tuple us)
 |fn (f:Nat) (cs:List PV) (us:Array Value) (hl:cs.length=us.size) (hv:∀(j:Nat) (c:PV) (u:Value),cs[j]?=some c→us[j]?=some u→VR X g w c u) :
   VR X g w (.fn f cs) (.func (.func (X.fnOf f)) #[] us)
 |nilm:VR X g w .nilm (.map none)
 |map (id b:Nat) (h:g.mp id=some b):VR X g w (.map id) (.map (some b))
 |hnd (b:Nat):VR X g w (.hnd b) (.pointer (some ⟨b,0,none⟩))
 |bfn (f:Nat) (cs:List PV) (us:Array Value) (hl:cs.length=us.size) (hv:∀(j:Nat) (c:PV) (u:Value),cs[j]?=some c→us[j]?=some u→VR X g w c u) :
   VR X g w (.bfn f cs) (.func (.func (X.fnOf f)) us #[])
inductive MR(X:Tie)(g:Gh)(w:World):List PV→List MapEntry→Prop where
 |nil:MR X g w [] []
 |mark:MR X g w [.und] []
 |cons (k v:PV) (cs:List PV) (e:MapEntry) (es:List MapEntry) (hk:VR X g w k e.key) (hkk:ra k=true) (hv:VR X g w v e.val) (h:MR X g w cs es):MR X g w (k::v::cs) (e::es)
def MR.imp{X:Tie}{g g':Gh}{w w':World}(f:∀c u,VR X g w c u→VR X g' w' c u){cs:List PV}{es:List MapEntry}(h:MR X g w cs es):MR X g' w' cs es:=by
 induction h with
 |nil=>exact .nil
 |mark=>exact .mark
 |cons k v cs e es hk hkk hv _ ih=>exact .cons k v cs e es (f _ _ hk) hkk (f _ _ hv) ih
structure Le(g:Gh)(w:World)(g':Gh)(w':World):Prop where
 os:w'.os=w.os
 tape:w'.tape=w.tape
 output:w'.output=w.output
 size:w.heap.size≤w'.heap.size
 obj:∀id b,g.obj id=some b→g'.obj id=some b
 arr:∀b x,g.arr b=some x→g'.arr b=some x
 asz:∀id n,g.asz id=some n→g'.asz id=some n
 pub:∀b,g.pub b≤g'.pub b
 cell:∀b j,j<g.pub b→w'.cell? ⟨b,j,none⟩=w.cell? ⟨b,j,none⟩
 shape:∀(b:Nat) (us:Array Value) (t:TypeId) (fz:Nat×Nat),w.heap[b]?=some (.cells us t fz)→∃us',w'.heap[b]?=some (.cells us' t fz)∧us'.size=us.size
 objN:∀id b,g'.obj id=some b→(∃i,g.obj i=some b)∨w.heap.size≤b
 arrN:∀b x,g'.arr b=some x→g.arr b=some x∨w.heap.size≤b
 keep:∀b,b<w.heap.size→(∀id,g.obj id≠some b)→g.arr b=none→(∀id,g.mp id≠some b)→w'.heap[b]?=w.heap[b]?
 pubN:∀b,b<w.heap.size→(∀id,g.obj id≠some b)→g.arr b=none→(∀id,g.mp id≠some b)→g'.pub b=g.pub b
 mp:∀id b,g.mp id=some b→g'.mp id=some b
 mpN:∀id b,g'.mp id=some b→g.mp id=some b∨w.heap.size≤b
 mf:∀b es c,g.mfz b=true→w.heap[b]?=some (.map es c)→g'.mfz b=true∧w'.heap[b]?=some (.map es c)
def Le.refl(g:Gh)(w:World):Le g w g w:=
 ⟨rfl,rfl,rfl,aR _,fun _ _ h=>h,fun _ _ h=>h,fun _ _ h=>h,fun _=>aR _,fun _ _ _=>rfl,
  fun _ us _ _ h=>⟨us,h,rfl⟩,fun id _ h=>.inl ⟨id,h⟩,fun _ _ h=>.inl h,fun _ _ _ _ _=>rfl,fun _ _ _ _ _=>rfl,fun _ _ h=>h,fun _ _ h=>.inl h,fun _ _ _ h e=>⟨h,e⟩⟩
def Le.trans{g g1 g2:Gh}{w w1 w2:World}(h:Le g w g1 w1)(k:Le g1 w1 g2 w2):Le g w g2 w2 where
 os:=k.os.trans h.os
 tape:=k.tape.trans h.tape
 output:=k.output.trans h.output
 size:=Nat.le_trans h.size k.size
 obj:=fun id b e=>k.obj id b (h.obj id b e)
 arr:=fun b x e=>k.arr b x (h.arr b x e)
 asz:=fun id n e=>k.asz id n (h.asz id n e)
 pub:=fun b=>Nat.le_trans (h.pub b) (k.pub b)
 cell:=fun b j e=>(k.cell b j (im e (h.pub b))).trans (h.cell b j e)
 shape:=fun b us t fz e=>by
  obtain⟨u1,e1,s1⟩:=h.shape b us t fz e;obtain⟨u2,e2,s2⟩:=k.shape b u1 t fz e1;exact⟨u2,e2,s2.trans s1⟩
 objN:=fun id b e=>by
  rcases k.objN id b e with⟨i,e1⟩|e1
  ·exact h.objN i b e1
  ·exact .inr (Nat.le_trans h.size e1)
 arrN:=fun b x e=>by
  rcases k.arrN b x e with e1|e1
  ·exact h.arrN b x e1
  ·exact .inr (Nat.le_trans h.size e1)
 keep:=fun b hb ho ha hm=>by
  rw[k.keep b (im hb h.size) ?_ ?_ ?_,h.keep b hb ho ha hm]
  ·intro id e;rcases h.objN id b e with⟨i,e1⟩|e1
   ·exact ho i e1
   ·omega
  ·cases e:g1.arr b with
   |none=>rfl
   |some x=>
    rcases h.arrN b x e with e1|e1
    ·rw[ha]at e1;cases e1
    ·omega
  ·intro id e;rcases h.mpN id b e with e1|e1
   ·exact hm id e1
   ·omega
 pubN:=fun b hb ho ha hm=>by
  rw[k.pubN b (im hb h.size) ?_ ?_ ?_,h.pubN b hb ho ha hm]
  ·intro id e;rcases h.objN id b e with⟨i,e1⟩|e1
   ·exact ho i e1
   ·omega
  ·cases e:g1.arr b with
   |none=>rfl
   |some x=>
    rcases h.arrN b x e with e1|e1
    ·rw[ha]at e1;cases e1
    ·omega
  ·intro id e;rcases h.mpN id b e with e1|e1
   ·exact hm id e1
   ·omega
 mp:=fun id b e=>k.mp id b (h.mp id b e)
 mpN:=fun id b e=>by
  rcases k.mpN id b e with e1|e1
  ·exact h.mpN id b e1
  ·exact .inr (Nat.le_trans h.size e1)
 mf:=fun b es c e1 e2=>by
  obtain⟨q1,q2⟩:=h.mf b es c e1 e2;exact k.mf b es c q1 q2
def kp.mono{g g':Gh}{w w':World}(h:Le g w g' w'){b n:Nat}(r:kp w b n):kp w' b n:=by
 obtain⟨us,t,lo,hi,e,hn,hf⟩:=r;obtain⟨us',e',s'⟩:=h.shape b us t (lo,hi) e;exact⟨us',t,lo,hi,e',by omega,by omega⟩
def VR.mono{X:Tie}{g g':Gh}{w w':World}(h:Le g w g' w'){v:PV}{u:Value}(r:VR X g w v u):VR X g' w' v u:=by
 induction r with
 |und u=>exact .und u
 |int k n=>exact .int k n
 |bool b=>exact .bool b
 |str s=>exact .str s
 |nilp=>exact .nilp
 |nils=>exact .nils
 |nili=>exact .nili
 |nilf=>exact .nilf
 |ptr id off b e=>exact .ptr id off b (h.obj _ _ e)
 |ref cs b o us hpub hc _ ih=>
  exact .ref cs b o us (Nat.le_trans hpub (h.pub b)) (fun j hj=>by rw[h.cell b (o+j) (by omega)];exact hc j hj) ih
 |sl tip es sp b o cap sz us hcap hpos hsz hpub hc _ hlink hone ih=>
  refine .sl tip es sp b o cap sz us hcap hpos hsz (Nat.le_trans hpub (h.pub b)) (fun j hj=>by rw[h.cell b (o+j) (by omega)];exact hc j hj) ih ?_ hone;intro id e ht hs;obtain⟨h1,h2,h3⟩:=hlink id e ht hs;refine⟨h1,h.asz _ _ h2,?_⟩;rcases h3 with h3|⟨base,h4,h5,h6⟩
  ·exact .inl h3
  ·exact .inr ⟨base,h.arr _ _ h4,h5,h6.mono h⟩
 |slz a=>exact .slz a
 |osl id off len sz cap b e hl hr=>exact .osl id off len sz cap b (h.obj _ _ e) hl (fun q=>(hr q).mono h)
 |emp a=>exact .emp a
 |iface t v u _ ih=>exact .iface t v u ih
 |agg cs us hl _ ih=>exact .agg cs us hl ih
 |tup cs us hl _ ih=>exact .tup cs us hl ih
 |fn f cs us hl _ ih=>exact .fn f cs us hl ih
 |nilm=>exact .nilm
 |map id b e=>exact .map id b (h.mp _ _ e)
 |hnd b=>exact .hnd b
 |bfn f cs us hl _ ih=>exact .bfn f cs us hl ih
structure hY(X:Tie)(g:Gh)(S:St)(w:World):Prop where
 ent:∀id b,g.mp id=some b→∃cs es clock,S.objs[id]?=some cs∧w.heap[b]?=some (.map es clock)∧MapKept.Stamped es clock∧MR X g w cs es.toList
 inj:∀i j b,g.mp i=some b→g.mp j=some b→i=j
 pub:∀i b,g.mp i=some b→g.pub b=0∧g.arr b=none
 dis:∀i b c,g.mp i=some b→g.obj i=some c→False
 fz:∀b,g.mfz b=true→∃id cs,g.mp id=some b∧S.objs[id]?=some cs∧cs.length%2=1
def hY.of{X:Tie}{g g':Gh}{S S':St}{w w':World}(h:hY X g S w)(hmp:∀id b,g'.mp id=some b→g.mp id=some b)(hobj:∀id b,g.mp id=some b→S'.objs[id]?=S.objs[id]?)
  (hheap:∀id b,g.mp id=some b→w'.heap[b]?=w.heap[b]?)(hvr:∀c u,VR X g w c u→VR X g' w' c u)(hpub:∀id b,g.mp id=some b→g'.pub b=g.pub b∧g'.arr b=g.arr b)
  (hdis:∀id b c,g.mp id=some b→g'.obj id=some c→g.obj id=some c) (hmp2:∀id b,g.mp id=some b→g'.mp id=some b:=by exact fun _ _ h=>h) (hfz:∀b,g'.mfz b=true→g.mfz b=true:=by exact fun _ h=>h):hY X g' S' w' where
 ent:=fun id b e=>by
  have e:=hmp id b e;obtain⟨cs,es,clock,h1,h2,h3,h4⟩:=h.ent id b e;exact⟨cs,es,clock,by rw[hobj id b e];exact h1,by rw[hheap id b e];exact h2,h3,h4.imp hvr⟩
 inj:=fun i j b e1 e2=>h.inj i j b (hmp _ _ e1) (hmp _ _ e2)
 pub:=fun i b e=>by
  obtain⟨q1,q2⟩:=hpub i b (hmp _ _ e);rw[q1,q2];exact h.pub i b (hmp _ _ e)
 dis:=fun i b c e1 e2=>h.dis i b c (hmp _ _ e1) (hdis i b c (hmp _ _ e1) e2)
 fz:=fun b e=>by
  obtain⟨id,cs,h1,h2,h3⟩:=h.fz b (hfz b e);exact⟨id,cs,hmp2 id b h1,by rw[hobj id b h1];exact h2,h3⟩
def hY.lt{X:Tie}{g:Gh}{S:St}{w:World}(h:hY X g S w){i b:Nat}(e:g.mp i=some b):b<w.heap.size:=by
 obtain⟨_,_,_,_,h2,_⟩:=h.ent i b e;exact(bc.1 h2).1
def hY.no{X:Tie}{g:Gh}{S:St}{w:World}(h:∀i,g.mp i=none)(hf:∀b,g.mfz b=false:=by exact fun _=>rfl):hY X g S w:=
 ⟨fun i b e=>(by rw[h i]at e;cases e),fun i j b e=>(by rw[h i]at e;cases e),fun i b e=>(by rw[h i]at e;cases e),fun i b c e=>(by rw[h i]at e;cases e),fun b e=>(by rw[hf b]at e;cases e)⟩
def hY.fzb{X:Tie}{g:Gh}{S:St}{w:World}(h:hY X g S w){b:Nat}(e:g.mfz b=true):b<w.heap.size:=by
 obtain⟨id,cs,h1,_⟩:=h.fz b e;exact h.lt h1
def bt(S:St)(i:Nat):Prop:=∃c cs,S.objs[i]?=some (c::cs)
structure mF(g:Gh)(w:World)(r:Nat):Prop where
 lt:r<w.heap.size
 obj:∀id,g.obj id≠some r
 arr:g.arr r=none
 mp:∀id,g.mp id≠some r
def mF.le{g g':Gh}{w w':World}{r:Nat}(h:mF g w r)(hle:Le g w g' w'):mF g' w' r∧w'.heap[r]?=w.heap[r]?:=by
 have hlt:=h.lt;refine⟨⟨im hlt hle.size,fun id e=>?_,?_,fun id e=>?_⟩,hle.keep r hlt h.obj h.arr h.mp⟩
 ·rcases hle.objN id r e with⟨i,e1⟩|e1
  ·exact h.obj i e1
  ·omega
 ·cases e:g'.arr r with
  |none=>rfl
  |some x=>
   rcases hle.arrN r x e with e1|e1
   ·rw[h.arr]at e1;cases e1
   ·omega
 ·rcases hle.mpN id r e with e1|e1
  ·exact h.mp id e1
  ·omega
def hZ(X:Tie)(g:Gh)(w:World):Prop:=∀q∈X.gl,mF g w q.1∧w.cell? ⟨q.1,0,none⟩=some q.2
def hZ.le{X:Tie}{g g':Gh}{w w':World}(h:hZ X g w)(hle:Le g w g' w'):hZ X g' w':=fun q hq=>by
 obtain⟨h1,h2⟩:=h q hq;obtain⟨h3,h4⟩:=h1.le hle;refine⟨h3,?_⟩;rw[←h2];simp only[World.cell?,h4]
def hZ.sub{X:Tie}{g g':Gh}{w:World}(h:hZ X g w)(ho:∀id b,g'.obj id=some b→∃i,g.obj i=some b)(ha:∀b,g.arr b=none→g'.arr b=none)(hm:∀id b,g'.mp id=some b→∃i,g.mp i=some b):hZ X g' w:=fun q hq=>by
 obtain⟨⟨h1,h2,h3,h4⟩,h5⟩:=h q hq;exact⟨⟨h1,fun id e=>by obtain⟨i,e'⟩:=ho id _ e;exact h2 i e',ha _ h3,fun id e=>by obtain⟨i,e'⟩:=hm id _ e;exact h4 i e'⟩,h5⟩
structure SR(X:Tie)(g:Gh)(S:St)(w:World):Prop where
 obj:∀id b,g.obj id=some b→∃cs us t,S.objs[id]?=some cs∧(∃fz:Nat×Nat,w.heap[b]?=some (.cells us t fz)∧(fz.2≤fz.1∨us.size≤fz.1))∧cs.length≤us.size ∧
  ∀(j:Nat) (c:PV) (u:Value),cs[j]?=some c→us[j]?=some u→VR X g w c u
 inj:∀i j b,g.obj i=some b→g.obj j=some b→bt S j→i≤j
 objpub:∀i b,g.obj i=some b→(bt S i→g.pub b=0)∧g.arr b=none
 arr:∀b id base,g.arr b=some (id,base)→∃sz tip,g.asz id=some sz∧0<sz∧S.tips[id]?=some (tip,sz)∧base+g.pub b≤tip*sz
 asz:∀id sz,g.asz id=some sz→∃tip,S.tips[id]?=some (tip,sz)
 lt:∀b,w.heap.size≤b→g.pub b=0∧g.arr b=none
 maps:hY X g S w
 gl:hZ X g w
structure Dn where
 n:Nat
 d:List Deferred
instance:CoeOut Dn Nat:=⟨Dn.n⟩
structure FR(X:Tie)(n:Dn)(g:Gh)(w:World)(fr:Fr)(a:Act):Prop where
 size:a.tmps.size=n
 at_:∀t,VR X g w (fr t) (a.tmps.getD t undef)
 defers:a.defers=n.d
def FR.mono{X:Tie}{n:Dn}{g g':Gh}{w w':World}{fr:Fr}{a:Act}(h:Le g w g' w')(r:FR X n g w fr a):FR X n g' w' fr a:=
 ⟨r.size,fun t=>(r.at_ t).mono h,r.defers⟩
def FR.put{X:Tie}{n:Dn}{g:Gh}{w:World}{fr:Fr}{a:Act}(r:FR X n g w fr a){d:Option Nat}(hd:∀t,d=some t→t<n){v:PV}{u:Value}
  (hv:VR X g w v u):FR X n g w (aO fr d v) (a.put d u):=by
 cases d with
 |none=>exact r
 |some d=>
  have hd:=hd d rfl;refine⟨by simp[Act.put,r.size],fun t=>?_,r.defers⟩;simp only[aO,cg,Act.put];by_cases h:t=d
  ·subst h;have hs:t<a.tmps.size:=by rw[r.size];exact hd
   simp[Array.getD,hs,hv]
  ·have:=r.at_ t;rw[if_neg h]
   have e:(a.tmps.setIfInBounds d u).getD t undef=a.tmps.getD t undef:=by
    simp only[eG];rw[fJ (Ne.symm h)]
   rw[e];exact this
def VR.one{X:Tie}{g:Gh}{w:World}{v:PV}{u:Value}(r:VR X g w v u)(h:v.one=true):u.oneCell'=true:=by
 cases r<;>first|rfl|(simp[PV.one]at h)
def VR.single{X:Tie}{g:Gh}{w:World}{v:PV}{u:Value}(r:VR X g w v u)(hv:v.cells=[v])(hu:u.cells = #[u]) :
  v.cells.length=u.cells.size∧∀(j:Nat) (c:PV) (x:Value),v.cells[j]?=some c→u.cells[j]?=some x→VR X g w c x:=by
 rw[hv,hu];refine⟨rfl,fun j c x h1 h2=>?_⟩
 cases j with
 |zero=>simp at h1 h2;subst h1;subst h2;exact r
 |succ j=>simp at h1
def VR.cells{X:Tie}{g:Gh}{w:World}{v:PV}{u:Value}(r:VR X g w v u)(h:v.cells.all PV.one=true) :
  v.cells.length=u.cells.size∧∀(j:Nat) (c:PV) (x:Value),v.cells[j]?=some c→u.cells[j]?=some x→VR X g w c x:=by
 have hr:=r
 cases r with
 |agg cs us hl hv=>exact⟨hl,hv⟩
 |und u=>simp[PV.cells,PV.one]at h
 |tup cs us hl hv=>simp[PV.cells,PV.one]at h
 |_=>exact hr.single rfl rfl
end Ps
namespace Ps
open Go
def oi:Value→PV→Bool
 |.int k n,.int l m=>k==l&&n==m
 |.bool a,.bool b=>a==b
 |.string s,.str t=>s.data.toList==t
 |.pointer none,.nilp=>true
 |.slice none l c,.nils=>l==0&&c==0
 |.nilIface,.nili=>true
 |.nilFunc,.nilf=>true
 |.map none,.nilm=>true
 |_,_=>false
def jA:List Value→List PV→Bool
 | [],[]=>true
 |v::l,c::m=>oi v c&&jA l m
 |_,_=>false
def oj:Value→PV→Bool
 |.agg vs,.agg cs=>jA vs.toList cs
 |v,c=>oi v c
def aK(X:Tie):Operand→aG→Bool
 |.tmp t,.tmp s=>t==s
 |.const v,.cst c=>oi v c
 |.func f,.cst (.fn g [])=>X.fnOf g==f
 |_,_=>false
def eK(X:Tie):Option Operand→Option aG→Bool
 |none,none=>true
 |some x,some y=>aK X x y
 |_,_=>false
def eL(X:Tie):List Operand→List aG→Bool
 | [],[]=>true
 |x::l,y::m=>aK X x y&&eL X l m
 |_,_=>false
def lb(P:Program)(t:TypeId):Bool:=match P.underlying t with|some .bool=>true|_=>false
def fc(P:Program)(t:TypeId):Bool:=match P.underlying t with|some .string=>true|_=>false
def gB(P:Program)(t:TypeId)(k:IntKind):Bool:=match P.underlying t with|some (.int j)=>j==k|_=>false
def kT(P:Program)(t:TypeId)(sz:Nat):Bool:=
 match P.underlying t with|some (.slice e)=>(match P.info? e with|some i=>i.size==sz|none=>false)|_=>false
def nF(P:Program)(t:TypeId)(len sz:Nat):Bool:=
 match P.underlying t with|some (.array n e)=>n==len&&(match P.info? e with|some i=>i.size==sz|none=>false)|_=>false
def gR(P:Program)(t:TypeId)(ag:Bool)(n:Nat):Bool:=
 (match P.underlying t with|some (.struct _)|some (.array _ _)=>ag|some _=>!ag|none=>false) &&
 (match P.info? t with|some i=>i.size==n|none=>false)&&(ag||n==1)
def nG(P:Program)(t:TypeId):Bool:=match P.underlying t with|some (.interface _)=>false|some _=>true|none=>false
def iM(P:Program)(t:TypeId):NK→Operand→Bool
 |.p,.const (.pointer none)=>(match P.underlying t with|some (.pointer _)=>true|_=>false)
 |.s,.const (.slice none _ _)=>(match P.underlying t with|some (.slice _)=>true|_=>false)
 |.i,.const .nilIface=>(match P.underlying t with|some (.interface _)=>true|_=>false)
 |.f,.const .nilFunc=>(match P.underlying t with|some (.func ..)=>true|_=>false)
 |.m,.const (.map none)=>(match P.underlying t with|some (.map ..)=>true|_=>false)
 |_,_=>false
def rH(P:Program)(t:TypeId)(isb:Bool)(n:Nat):Bool:=
 match P.underlying t with
 |some (.array m e)=>m==n&&(match P.info? e with|some i=>i.size==1|none=>false) &&
  (match P.underlying e with|some .bool=>isb|some (.int _)=>!isb|_=>false) && !P.eqGuardType P.depth t
 |_=>false
def jh(P:Program)(g:TypeId→Nat→Bool):List Field→Nat→Nat→Bool
 | [],off,n=>off==n
 |f::l,off,n=>f.name != "_" && f.offset==off&&(match P.info? f.type with|some i=>g f.type i.size&&jh P g l (off+i.size) n|none=>false)
def kU(P:Program):Nat→TypeId→Nat→Bool
 |0,_,_=>false
 |d+1,t,n=>match P.underlying t with
  |some (.int _)=>n==1
  |some (.struct fs)=>!P.stoodInHeld t&&jh P (kU P d) fs.toList 0 n
  |_=>false
def rI(P:Program)(t:TypeId)(n:Nat):Bool:=(match P.underlying t with|some (.struct _)=>true|_=>false)&&kU P 6 t n && !P.eqGuardType P.depth t
def jB(P:Program)(t:TypeId)(c:PV):Bool:=
 match P.info? t with|some i=>(match i.zero with|some z=>oj z c|none=>false)|none=>false
def jC(P:Program)(t:TypeId)(cs:List PV):Bool:=
 match P.info? t with|some i=>(match i.zero with|some z=>jA z.cells.toList cs|none=>false)|none=>false
def rJ(X:Tie)(y:aG):Go.Op→Bool
 |.move x=>aK X x y
 |.assign x=>aK X x y
 |.call c=>(match c.callee,c.args.toList,c.argTypes.toList,y with
  |.builtin .len,[_],[t],.cst (.int .i64 n)=>(match X.P.underlying t with|some (.array m _)=>n==m|_=>false)
  |_,_,_,_=>false)
 |_=>false
def cJ(neg:Bool):BinOp:=if neg then .neq else .eql
def lc(X:Tie)(places:List (Nat×Nat)):List (Nat×Operand)→List (Nat×Nat×aG)→Bool
 | [],[]=>true
 |(i,x)::l,(off,n,y)::m=>places[i]?==some (off,n)&&aK X x y&&lc X places l m
 |_,_=>false
def ur(P:Program)(t:TypeId):Option (List (Nat×Nat)):=
 match P.underlying t with
 |some (.struct fs)=>fs.toList.mapM fun f=>(P.info? f.type).map fun i=>(f.offset,i.size)
 |_=>none
def ld(X:Tie)(sz:Nat):List (Nat×Operand)→List (Nat×Nat×aG)→Bool
 | [],[]=>true
 |(i,x)::l,(off,n,y)::m=>off==i*sz&&n==sz&&aK X x y&&ld X sz l m
 |_,_=>false
def ji(X:Tie):List (Nat×Operand)→List (Nat×aG)→Bool
 | [],[]=>true
 |(i,x)::l,(j,y)::m=>i==j&&aK X x y&&ji X l m
 |_,_=>false
def jk(P:Program)(t:TypeId)(ks:Bool):Bool:=
 match P.underlying t with
 |some (.map k _)=>(match P.underlying k with|some .string=>ks|some (.int _)=>!ks|_=>false)
 |_=>false
def kV(P:Program)(ar:Bool)(t:TypeId):Bool:=
 match P.underlying t with
 |some (.map k _)=>(match P.underlying k with
  |some (.pointer e)=>(match P.info? e with|some i=>!ar&&i.size != 0|none=>false)
  |some (.array m e)=>(match P.info? e,P.underlying e with|some i,some .string=>ar&&m==2&&i.size==1|_,_=>false)
  |_=>false)
 |_=>false
def kW(P:Program)(t:TypeId)(z:PV):Bool:=match P.underlying t with|some (.map _ e)=>jB P e z|_=>false
def aDi(P:Program)(f:FuncId):Bool:=match P.funcs[f]? with|some fn=>fn.body.isSome&&fn.name != "runtime.NumGoroutine" | none=>false
def ay(X:Tie)(op:Go.Op):bC→Bool
  |.mov y=>rJ X y op
  |.pick c a b=>(match op with|.pick c' a' b'=>aK X c' c&&aK X a' a&&aK X b' b|_=>false)
  |.nilck x=>(match op with|.nilCheck y=>aK X y x|_=>false)
  |.arith o x y=>(match op with|.binOp p _ a b _=>p==o&&aK X a x&&aK X b y|_=>false)
  |.eqb neg x y=>(match op with|.binOp p t a b _=>p==cJ neg&&lb X.P t&&aK X a x&&aK X b y|_=>false)
  |.eqn neg k x=>(match op with|.binOp p t a b _=>p==cJ neg&&iM X.P t k b&&aK X a x|_=>false)
  |.eqa neg isb n x y=>(match op with|.binOp p t a b _=>p==cJ neg&&rH X.P t isb n&&aK X a x&&aK X b y|_=>false)
  |.eqs neg n x y=>(match op with|.binOp p t a b _=>p==cJ neg&&rI X.P t n&&aK X a x&&aK X b y|_=>false)
  |.un o x=>(match op with|.unOp p _ y=>p==o&&aK X y x|_=>false)
  |.toInt k x=>(match op with|.convert s d y=>(X.P.underlying s).isSome&&gB X.P d k&&aK X y x|_=>false)
  |.strId x=>(match op with|.convert s d y=>(X.P.underlying s).isSome&&fc X.P d&&aK X y x|_=>false)
  |.toStr x=>(match op with
    |.convert s d y=>(match X.P.underlying s with|some (.slice e)=>gB X.P e .u8&&(match X.P.info? e with|some i=>i.size==1|none=>false)|_=>false)&&fc X.P d&&aK X y x
    |_=>false)
  |.field ag off n x=>(match op with
    |.field t y f=>(match X.P.underlying t with|some (.struct fs)=>(match fs[f]? with|some g=>g.offset==off&&gR X.P g.type ag n|none=>false)|_=>false)&&aK X y x
    |_=>false)
  |.build z parts=>(match op with
    |.build t ps=>jC X.P t z &&
      (match X.P.underlying t with
       |some (.struct _)=>(match ur X.P t with|some places=>lc X places ps.toList parts|none=>false)
       |some (.array _ e)=>(match X.P.info? e with|some i=>ld X i.size ps.toList parts|none=>false)
       |_=>false)
    |_=>false)
  |.mkif t x=>(match op with|.makeInterface u y=>X.ty t==u&&nG X.P u&&aK X y x|_=>false)
  |.mkfn f caps=>(match op with|.makeFunc (.func g) first cs=>X.fnOf f==g&&first.size==0&&eL X cs.toList caps|_=>false)
  |.extract i x=>(match op with|.extract y j=>i==j&&aK X y x|_=>false)
  |.assert t ok z x=>(match op with|.typeAssert y _ u k=>X.ty t==u&&ok==k&&nG X.P u&&jB X.P u z&&aK X y x|_=>false)
  |.idxs x i=>(match op with|.index t y j=>fc X.P t&&aK X y x&&aK X j i|_=>false)
  |.idxa len n ag x i=>(match op with
    |.index t y j=>(match X.P.underlying t with|some (.array m e)=>m==len&&gR X.P e ag n|_=>false)&&aK X y x&&aK X j i
    |_=>false)
  |.slcs lo hi x=>(match op with|.slice t y l h none=>fc X.P t&&aK X y x&&eK X l lo&&eK X h hi|_=>false)
  |.slc sz lo hi x=>(match op with|.slice t y l h none=>kT X.P t sz&&aK X y x&&eK X l lo&&eK X h hi|_=>false)
  |.slca len sz lo hi x=>(match op with|.slice t y l h none=>nF X.P t len sz&&aK X y x&&eK X l lo&&eK X h hi|_=>false)
  |.faddr off x=>(match op with
    |.fieldAddr t y f=>(match X.P.underlying t with
      |some (.struct fs)=>(match fs[f]? with|some g=>g.offset==off&&(match X.P.info? g.type with|some i=>i.size != 0|none=>false)|none=>false)
      |_=>false)&&aK X y x
    |_=>false)
  |.iaddr sz x i=>(match op with|.indexAddr t y j=>kT X.P t sz&&aK X y x&&aK X j i|_=>false)
  |.iaddra len sz x i=>(match op with|.indexAddr t y j=>nF X.P t len sz&&aK X y x&&aK X j i|_=>false)
  |.len st x=>(match op with
    |.call c=>(match c.callee,c.args.toList,c.argTypes.toList with
      |.builtin .len,[y],[t]=>(match X.P.underlying t with|some .string=>st|some (.slice _)=>!st|_=>false)&&aK X y x
      |_,_,_=>false)
    |_=>false)
  |.mnmx mx x y=>(match op with
    |.call c=>(match c.callee,c.args.toList with
      |.builtin .max,[a,b]=>mx&&aK X a x&&aK X b y
      |.builtin .min,[a,b]=>!mx&&aK X a x&&aK X b y
      |_,_=>false)
    |_=>false)
  |.load ag n _ x=>(match op with|.load t y=>gR X.P t ag n&&aK X y x|_=>false)
  |.loadb _ ag n x=>(match op with|.load t y=>gR X.P t ag n&&aK X y x|_=>false)
  |.stb _ n a v=>(match op with|.store t b u=>(match X.P.info? t with|some i=>i.size==n|none=>false)&&aK X b a&&aK X u v|_=>false)
  |.store n a v=>(match op with|.store t b u=>(match X.P.info? t with|some i=>i.size==n|none=>false)&&aK X b a&&aK X u v|_=>false)
  |.box _ x=>(match op with|.box _ y=>aK X y x|_=>false)
  |.alloc _ z=>(match op with|.alloc t=>jC X.P t z|_=>false)
  |.bsl _ ze len parts=>(match op with
    |.buildSlice t n ps=>(match X.P.underlying t with
      |some (.slice e)=>n==len&&jB X.P e ze&&(match X.P.info? e with|some i=>i.size==ze.cells.length|none=>false)&&ji X ps.toList parts
      |_=>false)
    |_=>false)
  |.app sz bytes s x=>(match op with
    |.call c=>(match c.callee,c.args.toList,c.argTypes.toList with
      |.builtin .append,[a,b],[t,u]=>(match X.P.underlying t with
        |some (.slice e)=>(match X.P.info? e with|some i=>i.size==sz&&i.bytes==bytes&&bytes != 0&&i.zero.isSome&&(match i.zero with|some z=>z.cells.size==sz|none=>false)|none=>false) &&
          (match X.P.underlying u with|some (.slice _)|some .string=>true|_=>false)
        |_=>false)&&aK X a s&&aK X b x
      |_,_,_=>false)
    |_=>false)
  |.gapp sz bytes s x=>(match op with
    |.call c=>(match c.callee,c.args.toList,c.argTypes.toList with
      |.builtin .append,[a,b],[t,u]=>(match X.P.underlying t with
        |some (.slice e)=>(match X.P.info? e with|some i=>i.size==sz&&i.bytes==bytes&&bytes != 0&&i.zero.isSome&&(match i.zero with|some z=>z.cells.size==sz|none=>false)|none=>false) &&
          (match X.P.underlying u with|some (.slice _)|some .string=>true|_=>false)
        |_=>false)&&aK X a s&&aK X b x
      |_,_,_=>false)
    |_=>false)
  |.toStrO x=>(match op with
    |.convert s d y=>(match X.P.underlying s with|some (.slice e)=>gB X.P e .u8&&(match X.P.info? e with|some i=>i.size==1|none=>false)|_=>false)&&fc X.P d&&aK X y x
    |_=>false)
  |.emp3 x=>(match op with
    |.slice t y none (some (.const (.int .i64 0))) (some (.const (.int .i64 0)))=>(match X.P.underlying t with|some (.slice e)=>(X.P.info? e).isSome|_=>false)&&aK X y x
    |_=>false)
  |.emp0=>(match op with
    |.buildSlice t 0 ps=>(match X.P.underlying t with
      |some (.slice e)=>(match X.P.info? e with|some i=>i.size != 0|none=>false)&&ps.isEmpty
      |_=>false)
    |_=>false)
  |.gclr sz z x=>(match op with
    |.call c=>(match c.callee,c.args.toList,c.argTypes.toList with
      |.builtin .clear,[y],[t]=>(match X.P.underlying t with
        |some (.slice e)=>(match X.P.info? e with|some i=>i.size==sz|none=>false)&&jC X.P e z
        |_=>false)&&aK X y x
      |_,_,_=>false)
    |_=>false)
  |.toBytes _ x=>(match op with
    |.convert s d y=>(X.P.underlying s).isSome&&(match X.P.underlying d with|some (.slice e)=>gB X.P e .u8|_=>false)&&aK X y x
    |_=>false)
  |.mks sz bytes c=>(match op with
    |.makeSlice t (.const (.int .i64 0)) k=>(match X.P.underlying t with
      |some (.slice e)=>(match X.P.info? e with|some i=>i.size==sz&&i.bytes==bytes&&(match i.zero with|some z=>z.cells.size==sz|none=>false)|none=>false)
      |_=>false)&&aK X k c
    |_=>false)
  |.mkm=>(match op with|.makeMap _ none=>true|_=>false)
  |.mlk ks ok z x k=>(match op with|.lookup t y j o=>ok==o&&jk X.P t ks&&kW X.P t z&&aK X y x&&aK X j k|_=>false)
  |.mset ks x k v=>(match op with|.mapUpdate t y j u=>jk X.P t ks&&aK X y x&&aK X j k&&aK X u v|_=>false)
  |.mdel ks x k=>(match op with
    |.call c=>(match c.callee,c.args.toList,c.argTypes.toList with
      |.builtin .delete,[y,j],[t,_]=>jk X.P t ks&&aK X y x&&aK X j k
      |_,_,_=>false)
    |_=>false)
  |.plk ar ok z x k=>(match op with|.lookup t y j o=>ok==o&&kV X.P ar t&&kW X.P t z&&aK X y x&&aK X j k|_=>false)
  |.pset ar x k v=>(match op with|.mapUpdate t y j u=>kV X.P ar t&&aK X y x&&aK X j k&&aK X u v|_=>false)
  |.mlen x=>(match op with
    |.call c=>(match c.callee,c.args.toList,c.argTypes.toList with
      |.builtin .len,[y],[t]=>(match X.P.underlying t with|some (.map _ _)=>true|_=>false)&&aK X y x
      |_,_,_=>false)
    |_=>false)
  |.slc3 sz lo hi mx x=>(match op with|.slice t y l (some h) (some m)=>kT X.P t sz&&aK X y x&&eK X l lo&&aK X h hi&&aK X m mx|_=>false)
  |.mkbfn f first=>(match op with|.makeFunc (.func g) fs cs=>X.fnOf f==g&&cs.size==0&&eL X fs.toList first|_=>false)
  |.call _ f args=>(match op with
    |.call c=>(match c.callee with|.value (.func g)=>X.fnOf f==g|_=>false)&&eL X c.args.toList args
    |_=>false)
  |.callb _ f args=>(match op with
    |.call c=>(match c.callee with|.value (.func g)=>X.fnOf f==g|_=>false)&&eL X c.args.toList args
    |_=>false)
  |.wc _ x args=>(match op with
    |.call c=>(match c.callee with|.value y=>aK X y x|_=>false)&&eL X c.args.toList args
    |_=>false)
  |.mko sz bytes z c=>(match op with
    |.makeSlice t (.const (.int .i64 0)) k=>(match X.P.underlying t with
      |some (.slice e)=>(match X.P.info? e with|some i=>i.size==sz&&i.bytes==bytes&&(match i.zero with|some zv=>zv.cells.size==sz&&jA zv.cells.toList z|none=>false)|none=>false)
      |_=>false)&&aK X k c
    |_=>false)
  |.nst ..=>false
  |.msb _ ks x k v=>(match op with|.mapUpdate t y j u=>jk X.P t ks&&aK X y x&&aK X j k&&aK X u v|_=>false)
  |.asrI l x=>(match op with
    |.typeAssert y _ u true=>(match X.P.underlying u with
      |some (.interface want)=>l.all fun t=>match X.P.info? (X.ty t)with|some i=>(Instr.missingMethod want i.methods).isNone|none=>false
      |_=>false)&&aK X y x
    |_=>false)
  |.men ..=>false
  |.est ..=>false
  |.pan x=>(match op with|.panic y=>aK X y x|_=>false)
  |.rcv=>(match op with|.call c=>(match c.callee with|.builtin .recover=>c.args.size==0|_=>false)|_=>false)
  |.callv _ x args=>(match op with
    |.call c=>(match c.callee with|.value y=>aK X y x|_=>false)&&eL X c.args.toList args
    |_=>false)
  |.inv _ m x args=>(match op with
    |.call c=>(match c.callee with|.invoke y name=>X.mn m==name&&aK X y x|_=>false)&&eL X c.args.toList args
    |_=>false)
  |.bad=>true
end Ps
