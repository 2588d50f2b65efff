/- One operation, whatever it does. -/
import Derived.Test.YtpjmpaidcidjgaaGreatDoorDefsKb
import Derived.Test.YtpjmpaidcidjgaaGreatDoorSimObKb
set_option linter.defProp false
namespace Ps
open Go
theorem lK{f:PV→Option PV}:∀{l m:List PV},cc f l=some m→l.length=m.length∧∀(j:Nat) (c d:PV),l[j]?=some c→m[j]?=some d→f c=some d
 | [],m,h=>by cases h;exact⟨rfl,fun j c d h=>by simp at h⟩
 |a::l,m,h=>by
  simp only[cc]at h;split at h
  ·rename_i b hb;split at h
   ·rename_i m' hm;cases h;obtain⟨h1,h2⟩:=lK hm;refine⟨by simp[h1],fun j c d hc hd=>?_⟩
    cases j with
    |zero=>simp at hc hd;subst hc;subst hd;exact hb
    |succ j=>exact h2 j c d (by simpa using hc) (by simpa using hd)
   ·cases h
  ·cases h
theorem il:∀{l:List PV},(∀v∈l,v.free=true)→PV.freeL l=true
 | [],_=>rfl
 |a::l,h=>by simp only[PV.freeL,aJ];exact⟨h a (by simp),il fun v hv=>h v (by simp[hv])⟩
def nc{f:PV→Option PV}{l m:List PV}(h:cc f l=some m)(hf:∀c d,f c=some d→d.free=true):PV.freeL m=true:=by
 obtain⟨h1,h2⟩:=lK h;apply il;intro v hv;obtain⟨j,hj⟩:=iI hv;have hlt:j<l.length:=by rw[h1];exact(aM.1 hj).1
 exact hf _ _ (h2 j l[j] v (List.getElem?_eq_getElem hlt) hj)
theorem Ua{sz:Nat}:∀(n:Nat) (cs:List PV),PV.freeL cs=true→PV.freeL (db sz n cs)=true
 |0,_,_=>rfl
 |n+1,cs,h=>by
  have hm:=eq h;have h1:PV.freeL (cs.take sz)=true:=il fun v hv=>hm v (kA hv);have h2:PV.freeL (cs.drop sz)=true:=il fun v hv=>hm v (gN hv);simp only[db,PV.freeL,aJ];refine⟨?_,Ua n _ h2⟩;unfold tB;split
  ·rename_i c hc;rw[hc]at h1;simp only[PV.freeL,aJ]at h1;split
   ·exact h1.1
   ·simp[PV.free,PV.freeL,h1.1]
  ·exact h1
theorem Dp{objs:List (List PV)}{n0:Nat}:∀(k:Nat) {v d:PV},ai objs n0 k v=some d→d.free=true
 |0,v,d,h=>by simp[ai]at h
 |k+1,v,d,h=>by
  have ih:∀c d,ai objs n0 k c=some d→d.free=true:=fun c d h=>Dp k h;unfold ai at h;split at h
  ·rename_i hf;cases h;exact hf
  ·cases v<;>simp only at h<;>try (cases h;done)
   case ptr id off=>
    split at h
    ·split at h
     ·split at h
      ·split at h
       ·rename_i hm;cases h;simp only[PV.free];exact nc hm ih
       ·cases h
      ·cases h
     ·cases h
    ·cases h
   case ref cs=>
    split at h
    ·rename_i hm;cases h;simp only[PV.free];exact nc hm ih
    ·cases h
   case iface t v=>
    split at h
    ·rename_i hm;cases h;simp only[PV.free];exact ih _ _ hm
    ·cases h
   case agg cs=>
    split at h
    ·rename_i hm;cases h;simp only[PV.free];exact nc hm ih
    ·cases h
   case tup cs=>
    split at h
    ·rename_i hm;cases h;simp only[PV.free];exact nc hm ih
    ·cases h
   case fn f cs=>
    split at h
    ·rename_i hm;cases h;simp only[PV.free];exact nc hm ih
    ·cases h
   case sl tip es sp=>
    split at h
    ·rename_i h1 h2;cases h;simp only[PV.free,aJ];exact⟨nc h1 ih,nc h2 ih⟩
    ·cases h
   case emp=>cases h;rfl
   case osl id off len sz=>
    split at h
    ·split at h
     ·split at h
      ·split at h
       ·rename_i hm;cases h;simp only[PV.free,aJ];exact⟨Ua _ _ (nc hm ih),rfl⟩
       ·cases h
      ·cases h
     ·cases h
    ·cases h
def jx(objs:List (List PV))(n0 K:Nat)(cs ds:List PV):Prop:=
 cs.length=ds.length∧∀(j:Nat) (c d:PV),cs[j]?=some c→ds[j]?=some d→∃k,k<K∧ai objs n0 k c=some d
def Ub{objs:List (List PV)}{n0 k:Nat}{cs ds:List PV}(h:cc (ai objs n0 k) cs=some ds):jx objs n0 (k+1) cs ds:=
 ⟨(lK h).1,fun j c d h1 h2=>⟨k,by omega,(lK h).2 j c d h1 h2⟩⟩
def jx.append{objs:List (List PV)}{n0 K:Nat}{a b c d:List PV}(h:jx objs n0 K a b)(k:jx objs n0 K c d):jx objs n0 K (a++c) (b++d):=by
 refine⟨by simp[h.1,k.1],fun j x y e1 e2=>?_⟩;by_cases hj:j<a.length
 ·rw[bK hj]at e1;rw[bK (by rw[←h.1];exact hj)]at e2;exact h.2 j x y e1 e2
 ·rw[fU (by omega)]at e1;rw[fU (by rw[←h.1];omega),←h.1]at e2;exact k.2 _ x y e1 e2
def tx{objs:List (List PV)}{n0 k:Nat}{v:PV}(h:v.free=true):ai objs n0 (k+1) v=some v:=by
 unfold ai;rw[if_pos h]
def Uc{objs:List (List PV)}{n0 k:Nat}{c d:PV}(hs:ai objs n0 k c=some d)(ho:c.one=true):d.one=true:=by
 cases k with
 |zero=>simp[ai]at hs
 |succ k=>
  unfold ai at hs;split at hs
  ·cases hs;exact ho
  ·cases c<;>simp only at hs<;>(first|(cases hs;done)|(simp[PV.one]at ho;done)|skip)
   all_goals
    repeat (first|(cases hs;done)|split at hs)
    all_goals first|(cases hs;done)|(cases hs;rfl)
def Dq{objs:List (List PV)}{n0 k:Nat}{v d:PV}(h:ai objs n0 k v=some d):jx objs n0 (k+1) v.cells d.cells∧(v.cells.all PV.one=true→d.cells.all PV.one=true):=by
 cases k with
 |zero=>simp[ai]at h
 |succ k=>
  have h0:=h;unfold ai at h;split at h
  ·rename_i hf;cases h;refine⟨⟨rfl,fun j c d h1 h2=>?_⟩,id⟩;rw[h1]at h2;cases h2;exact⟨k+1,by omega,tx (DE hf c (eB h1))⟩
  ·have one:∀{v d:PV},ai objs n0 (k+1) v=some d→jx objs n0 (k+2) [v] [d]:=fun h=>⟨rfl,fun j c e h1 h2=>by
    cases j with
    |zero=>simp at h1 h2;subst h1;subst h2;exact⟨k+1,by omega,h⟩
    |succ j=>simp at h1⟩
   cases v<;>simp only at h<;>try (cases h;done)
   case agg cs hnf=>
    split at h
    ·rename_i ds hm;cases h;obtain⟨q1,q2⟩:=lK hm;refine⟨⟨q1,fun j c d e1 e2=>⟨k,by omega,q2 j c d e1 e2⟩⟩,fun ho=>?_⟩;simp only[PV.cells]at ho ⊢;rw[List.all_eq_true]at ho ⊢;intro x hx;obtain⟨j,hj⟩:=iI hx;have hlt:j<cs.length:=by rw[q1];exact(aM.1 hj).1
     exact Uc (q2 j cs[j] x (List.getElem?_eq_getElem hlt) hj) (ho _ (by simp))
    ·cases h
   all_goals
    repeat (first|(cases h;done)|split at h)
    all_goals first
     |(cases h;done)
     |(cases h;exact⟨one h0,fun _=>rfl⟩)
     |(cases h;exact⟨one h0,fun ho=>by simp[PV.cells,PV.one]at ho⟩)
theorem Ud{objs:List (List PV)}{n0 K:Nat}:∀{es ds:List PV},jx objs n0 K es ds→jx objs n0 K (es.flatMap PV.cells) (ds.flatMap PV.cells)
 | [],[],_=>⟨rfl,fun j c d h=>by simp at h⟩
 | [],_::_,h=>absurd h.1 (by simp)
 |_::_,[],h=>absurd h.1 (by simp)
 |e::es,d::ds,h=>by
  simp only[dd];obtain⟨k,hk,hs⟩:=h.2 0 e d rfl rfl;have h1:=(Dq hs).1;refine jx.append ⟨h1.1,fun j c x e1 e2=>?_⟩ (Ud ⟨by simpa using h.1,fun j c x e1 e2=>h.2 (j+1) c x (by simpa using e1) (by simpa using e2)⟩);obtain⟨k',hk',hs'⟩:=h1.2 j c x e1 e2;exact⟨k',by omega,hs'⟩
def jx.elem{objs:List (List PV)}{n0 K:Nat}{es ds:List PV}(h:jx objs n0 K es ds){d:PV}(hd:d∈ds):∃e∈es,∃k,k<K∧ai objs n0 k e=some d:=by
 obtain⟨j,hj⟩:=iI hd;have hlt:j<es.length:=by rw[h.1];exact(aM.1 hj).1
 exact⟨es[j],by simp,h.2 j es[j] d (List.getElem?_eq_getElem hlt) hj⟩
section
variable {X : Tie} {g1 g2 : Gh} {w1 : World} {S1 : St}
def Ue(hS1:SR X g1 S1 w1){n0:Nat}(h2:∀b x,g1.arr b=some x→g2.arr b=some x)(h3:∀id sz,g1.asz id=some sz→g2.asz id=some sz)(h4:∀b,g1.pub b≤g2.pub b)
  (hp:∀id b,n0≤id→g1.obj id=some b→∀cs,S1.objs[id]?=some cs→cs.length≤g2.pub b) :
  ∀(K k:Nat),k<K→∀{v d:PV} {u:Value},ai S1.objs n0 k v=some d→VR X g1 w1 v u→VR X g2 w1 d u:=by
 intro K
 induction K with
 |zero=>intro k hk;omega
 |succ K ih=>
  intro k hk v d u h r
  cases k with
  |zero=>simp[ai]at h
  |succ k=>
   unfold ai at h;split at h
   ·rename_i hf;cases h;exact r.ofFree h2 h3 h4 hf
   ·have ihk:∀{v d:PV} {u:Value},ai S1.objs n0 k v=some d→VR X g1 w1 v u→VR X g2 w1 d u:=fun h r=>ih k (by omega) h r
    have lst:∀{cs ds:List PV} {us:Array Value},cc (ai S1.objs n0 k) cs=some ds→cs.length=us.size→(∀(j:Nat) (c:PV) (u:Value),cs[j]?=some c→us[j]?=some u→VR X g1 w1 c u) →
      ds.length=us.size∧∀(j:Nat) (c:PV) (u:Value),ds[j]?=some c→us[j]?=some u→VR X g2 w1 c u:=by
     intro cs ds us hm hl hv;obtain⟨q1,q2⟩:=lK hm;refine⟨by omega,fun j c u e1 e2=>?_⟩;have hlt:j<cs.length:=by rw[q1];exact(aM.1 e1).1
     exact ihk (q2 j cs[j] c (List.getElem?_eq_getElem hlt) e1) (hv j cs[j] u (List.getElem?_eq_getElem hlt) e2)
    cases r with
    |ptr id off b hb=>
     simp only at h;split at h
     ·rename_i hn0;split at h
      ·rename_i cs hcs;split at h
       ·rename_i hoff;split at h
        ·rename_i ds hm;cases h;obtain⟨q1,q2⟩:=lK hm;obtain⟨us,hus⟩:=(ot hS1 hb hcs).drop off;rw[dO]at hus;have hlen:ds.length=cs.length-off:=by rw[←q1];simp
         refine .ref ds b off us (by have:=hp id b hn0 hb cs hcs;omega) (fun j hj=>?_) (fun j c hc=>?_)
         ·have hlt:j<(cs.drop off).length:=by rw[q1];exact hj
          exact(hus j _ (List.getElem?_eq_getElem hlt)).1
         ·have hlt:j<(cs.drop off).length:=by rw[q1];exact(aM.1 hc).1
          exact ihk (q2 j _ c (List.getElem?_eq_getElem hlt) hc) (hus j _ (List.getElem?_eq_getElem hlt)).2
        ·cases h
       ·cases h
      ·cases h
     ·cases h
    |ref cs b o us hpub hc hv=>
     simp only at h;split at h
     ·rename_i ds hm;cases h;obtain⟨q1,q2⟩:=lK hm;refine .ref ds b o us (by have:=h4 b;omega) (fun j hj=>hc j (by omega)) (fun j c hc'=>?_);have hlt:j<cs.length:=by rw[q1];exact(aM.1 hc').1
      exact ihk (q2 j _ c (List.getElem?_eq_getElem hlt) hc') (hv j _ (List.getElem?_eq_getElem hlt))
     ·cases h
    |slz aa=>
     simp only[cc]at h;cases h
     exact .slz aa
    |sl tip es sp b o cap sz us hcap hpos hsz hpub hc hv hlink hone=>
     simp only at h;split at h
     ·rename_i a c ha hc';cases h;have s1:=Ub ha;have s2:=Ub hc';have s:=s1.append s2;have sf:=Ud s;have l1:=s1.1;have l2:=s2.1
      have:=VR.sl (X:=X) (g:=g2) (w:=w1) tip a c b o cap sz us (by omega) hpos
       (fun e he=>by
        obtain⟨e',he',k',_,hs'⟩:=s.elem he;rw[←(Dq hs').1.1,hsz e' he'])
       (by have:=h4 b;rw[←l1,←l2];omega) (fun j hj=>hc j (by rw[l1,l2];exact hj))
       (fun j x hx=>by
        have hlt:j<((es++sp).flatMap PV.cells).length:=by rw[sf.1];exact(aM.1 hx).1
        obtain⟨k',hk',hs'⟩:=sf.2 j _ x (List.getElem?_eq_getElem hlt) hx;exact ih k' (by omega) hs' (hv j _ (List.getElem?_eq_getElem hlt)))
       (fun id e ht hs=>by
        subst hs;have:sp=[]:=jV.1 (by simpa using l2);obtain⟨k1,k2,k3⟩:=hlink id e ht this;refine⟨by omega,h3 _ _ k2,?_⟩;rcases k3 with k3|⟨base,k4,k5,k6⟩
        ·exact .inl (by omega)
        ·exact .inr ⟨base,h2 _ _ k4,by rw[←l1];exact k5,k6⟩)
       (fun e he=>by
        obtain⟨e',he',k',_,hs'⟩:=s.elem he;exact(Dq hs').2 (hone e' he'))
      rw[l1];exact this
     ·cases h
    |emp a=>simp only at h;cases h;exact .slz a
    |osl id off len sz cap b hb hl hr=>
     simp only at h;split at h
     ·rename_i hn0;split at h
      ·rename_i cs hcs;split at h
       ·rename_i hoff;split at h
        ·rename_i ds hm;cases h;obtain⟨q1,q2⟩:=lK hm;obtain⟨us,hus⟩:=(ot hS1 hb hcs).drop off;rw[dO]at hus;have hlen:ds.length=len*sz:=by rw[←q1];simp;omega
         have hone:ds.all PV.one=true:=by
          rw[List.all_eq_true];intro x hx;obtain⟨j,hj⟩:=iI hx;have hlt:j<((cs.drop off).take (len*sz)).length:=by rw[q1];exact(aM.1 hj).1
          have hmem:=(List.all_eq_true.1 hoff.2) _ (List.getElem_mem hlt);exact Uc (q2 j _ x (List.getElem?_eq_getElem hlt) hj) hmem
         have htk:ds.take (len*sz)=ds:=by rw[←hlen];exact kf
         have hfl:=DJ (sz:=sz) len ds (by omega) (by rw[htk];exact hone);rw[htk]at hfl;have hmm:=wo (sz:=sz) len ds (by omega) (by rw[htk];exact hone)
         have:=VR.sl (X:=X) (g:=g2) (w:=w1) none (db sz len ds) [] b off cap sz us (by rw[nR];simpa using hl) hn0.2
          (fun e he=>by rw[eP]at he;exact(hmm e he).1)
          (by rw[nR];have:=hp id b hn0.1 hb cs hcs;simp;omega)
          (fun j hj=>by
           rw[nR]at hj;have hj':j<(cs.drop off).length:=by simp at hj ⊢;omega
           exact(hus j _ (List.getElem?_eq_getElem hj')).1)
          (fun j c hc=>by
           rw[eP,hfl]at hc;have hjl:j<ds.length:=(aM.1 hc).1;have hlt:j<((cs.drop off).take (len*sz)).length:=by rw[q1];exact hjl
           have e1:((cs.drop off).take (len*sz))[j]?=some ((cs.drop off).take (len*sz))[j]:=List.getElem?_eq_getElem hlt;refine ihk (q2 j _ c e1 hc) ?_;rw[dH (by omega)]at e1;exact(hus j _ e1).2)
          (fun id e ht _=>by cases ht) (fun e he=>by rw[eP]at he;exact(hmm e he).2)
         rw[nR]at this;exact this
        ·cases h
       ·cases h
      ·cases h
     ·cases h
    |iface t v u hv=>
     simp only at h;split at h
     ·rename_i hm;cases h;exact .iface t _ u (ihk hm hv)
     ·cases h
    |agg cs us hl hv=>
     simp only at h;split at h
     ·rename_i hm;cases h;obtain⟨q1,q2⟩:=lst hm hl hv;exact .agg _ us q1 q2
     ·cases h
    |tup cs us hl hv=>
     simp only at h;split at h
     ·rename_i hm;cases h;obtain⟨q1,q2⟩:=lst hm hl hv;exact .tup _ us q1 q2
     ·cases h
    |fn f cs us hl hv=>
     simp only at h;split at h
     ·rename_i hm;cases h;obtain⟨q1,q2⟩:=lst hm hl hv;exact .fn f _ us q1 q2
     ·cases h
    |_=>simp only at h;cases h
end
open Classical in
noncomputable def gB (g1:Gh)(n0:Nat)(S1:St)(b:Nat):Nat:=
 if h:∃id,n0≤id∧g1.obj id=some b∧ce S1 id then((S1.objs[Classical.choose h]?).getD []).length else g1.pub b
section
variable {X : Tie} {g1 : Gh} {w1 : World} {S1 : St} {n0 : Nat}
def mN{b:Nat}(h:∀id,n0≤id→ce S1 id→g1.obj id≠some b):gB g1 n0 S1 b=g1.pub b:=by
 unfold gB;rw[dif_neg];rintro⟨id,h1,h2,h3⟩;exact h id h1 h3 h2
def Uf(hS1:SR X g1 S1 w1)(b:Nat):g1.pub b≤gB g1 n0 S1 b:=by
 unfold gB;split
 ·rename_i h;obtain⟨id,h1,h2,h3⟩:=h;rw[(hS1.objpub id b h2).1 h3];exact cP _
 ·exact aU _
def Ug(hS1:SR X g1 S1 w1)(id b:Nat)(hn:n0≤id)(hb:g1.obj id=some b)(cs:List PV)(hcs:S1.objs[id]?=some cs):cs.length≤gB g1 n0 S1 b:=by
 cases cs with
 |nil=>exact cP _
 |cons c l=>
 have hlv:ce S1 id:=⟨c,l,hcs⟩;unfold gB;have h:∃id,n0≤id∧g1.obj id=some b∧ce S1 id:=⟨id,hn,hb,hlv⟩;rw[dif_pos h];obtain⟨_,c1,c2⟩:=Classical.choose_spec h;have e1:=hS1.inj _ _ _ c1 hb hlv;have e2:=hS1.inj _ _ _ hb c1 c2;have:Classical.choose h=id:=by omega
 rw[this,hcs];exact aU _
end
end Ps
set_option linter.defProp false
namespace Ps
open Go
section
variable {X : Tie} {g : Gh} {w : World} {n : Dn} {fr : Fr} {a : Act} {S : St}
def eu(X:Tie)(g:Gh)(w:World)(a:Act)(op:Go.Op)(S':St)(v:PV):Prop:=
 ∀(dst:Option Tmp) (ty:TypeId) (pos:String) (after:Array Edge) (guard:Option (Nat×Bool)) (next:Act→World→Prop) (Q:Exit→Act→World→Prop),
  (∀u w',dA X g w S' v u w'→next (a.put dst u) w')→(Oper.mk dst op ty pos after guard).wp X.P a w next Q
def cN.opWp(hS:SR X g S w){op:Go.Op}{v:PV}(h:cN X g w a op v):eu X g w a op S v:=by
 intro dst ty pos after guard next Q hn
 obtain⟨u,h1,h2⟩:=h dst ty pos after guard;unfold Oper.wp;rw[h1];exact hn u w ⟨g,Le.refl g w,hS,h2⟩
def ov(X:Tie)(f:FuncId)(us:Array Value)(w:World)(K:Value→World→Prop):Prop:=
 ∀(o:Oper) (a:Act) (next:Act→World→Prop) (Q:Exit→Act→World→Prop),(∀u w',K u w'→next (a.put o.dst u) w')→o.upon X.P a next Q ((callFunc f us).run X.P w)
def dV(X:Tie)(call:ac):Prop:=
 ∀(f:Nat) (args:List PV) (S:St) (r:PV) (S':St),call f args S=some (r,S')→∀(g:Gh) (w:World) (us:Array Value),SR X g S w→bX X g w args us →
  ov X (X.fnOf f) us w (fun u w'=>dA X g w S' r u w')
def ff(X:Tie):Prop:=
 ∀(t m f:Nat),X.T.meth t m=some f→∀(u:Value) (w:World),(Go.method (X.P.types.size+Made.depth) (X.ty t) u (X.mn m)).run X.P w=.ok (X.fnOf f,u) w
def qk(hF:FR X n g w fr a){xs:Array Operand}{ys:List aH}(h:fq X xs.toList ys=true):bX X g w (ys.map (ev fr)) (xs.map a.eval):=by
 obtain⟨h1,h2⟩:=wh hF h;exact⟨by simpa using h1,fun j c u e1 e2=>h2 j c u e1 (by simpa using e2)⟩
def tZ{cs ds:List PV}{us vs:Array Value}(h:bX X g w cs us)(k:bX X g w ds vs):bX X g w (cs++ds) (us++vs):=by
 refine⟨by simp[h.1,k.1],fun j c u e1 e2=>?_⟩;by_cases hj:j<cs.length
 ·rw[bK hj]at e1;rw[jU (by rw[←h.1];exact hj)]at e2;exact h.2 j c u e1 e2
 ·rw[fU (by omega)]at e1;rw[EI (by rw[←h.1];omega)]at e2;rw[←h.1]at e2;exact k.2 _ c u e1 e2
def aDn{c:PV}{cs:List PV}{u:Value}{us:Array Value}(h:VR X g w c u)(k:bX X g w cs us):bX X g w (c::cs) (#[u]++us):=by
 refine tZ (cs:=[c]) ⟨rfl,fun j c' u' e1 e2=>?_⟩ k
 cases j with
 |zero=>simp at e1 e2;subst e1;subst e2;exact h
 |succ j=>simp at e1
def aDo{keep:Bool}{S:St}{q:Option (PV×St)}{v:PV}{S':St}(h:oS keep S q=some (v,S')):q=some (v,S'):=by
 unfold oS at h;split at h
 ·cases h
 ·split at h
  ·split at h
   ·cases h;rfl
   ·cases h
  ·cases h;rfl
def DK{S S':St}{q:Option PV}{v:PV}(h:dF S q=some (v,S')):S'=S∧q=some v:=by
 cases q with
 |none=>cases h
 |some x=>cases h;exact⟨rfl,rfl⟩
def cV(p:Nat→Nat):Gh:=⟨fun _=>none,fun _=>none,fun _=>none,p,fun _=>none,fun _=>false⟩
def TX{p:Nat→Nat}(h:js X g w):js X (cV p) w:=h.sub (fun _ _ e=>absurd e (by simp[cV])) (fun _ _=>rfl) (fun _ _ e=>absurd e (by simp[cV]))
def wq{p:Nat→Nat}(h:∀b,w.heap.size≤b→p b=0)(hg:js X (cV p) w):SR X (cV p) cS w where
 obj:=fun id b h=>absurd h (by simp[cV])
 inj:=fun i j b h=>absurd h (by simp[cV])
 objpub:=fun i b h=>absurd h (by simp[cV])
 arr:=fun b id base h=>absurd h (by simp[cV])
 asz:=fun id sz h=>absurd h (by simp[cV])
 maps:=jr.no (fun i=>rfl)
 lt:=fun b hb=>⟨h b hb,rfl⟩
 gl:=hg
def aDp{call:ac}(hC:dV X call)(hS:SR X g S w){f:Nat}{args:List PV}{r:PV}{us:Array Value}(hV:bX X g w args us)(h:jG call f args=some r) :
  ov X (X.fnOf f) us w (fun u w'=>dA X g w S r u w'):=by
 unfold jG at h;split at h
 ·rename_i hfree
  cases hc:call f (PV.frzL args) cS with
  |none=>rw[hc]at h;cases h
  |some q=>
   obtain⟨r0,S1⟩:=q;rw[hc]at h;simp only[wE]at h;split at h
   ·rename_i hrf;cases h;let g0:Gh:=cV g.pub;have hS0:SR X g0 cS w:=wq (fun b hb=>(hS.lt b hb).1) (TX hS.gl)
    have hV0:bX X g0 w (PV.frzL args) us:=by
     rw[gL];refine⟨by simpa using hV.1,fun j c u e1 e2=>?_⟩;rw[iv]at e1
     cases hc':args[j]? with
     |none=>rw[hc']at e1;cases e1
     |some c'=>rw[hc']at e1;cases e1;exact VR.freeze (g1:=g) (g2:=g0) (fun _=>aU _) (hV.2 j c' u hc' e2) (eq hfree c' (eB hc'))
    intro o a next Q hn
    refine hC f _ cS r0 S1 hc g0 w us hS0 hV0 o a next Q (fun u w' hst=>hn u w' ?_)
    obtain⟨g1,hle,hS1,hr⟩:=hst;let g2:Gh:={g with pub:=g1.pub};have hpo:∀b,b<w.heap.size→g1.pub b=g.pub b:=fun b hb=>hle.pubN b hb (fun id h=>absurd h (by simp[g0,cV])) rfl (fun id h=>absurd h (by simp[g0,cV]));have hkeep:∀b,b<w.heap.size→w'.heap[b]?=w.heap[b]?:=fun b hb=>hle.keep b hb (fun id h=>absurd h (by simp[g0,cV])) rfl (fun id h=>absurd h (by simp[g0,cV]))
    have hle2:Le g w g2 w':=⟨hle.os,hle.tape,hle.output,hle.size,fun _ _ h=>h,fun _ _ h=>h,fun _ _ h=>h,hle.pub,hle.cell,hle.shape,fun id _ h=>.inl ⟨id,h⟩,fun _ _ h=>.inl h,
     fun b hb _ _ _=>hkeep b hb,fun b hb _ _ _=>hpo b hb,fun _ _ h=>h,fun _ _ h=>.inl h,fun b _ _ h e=>⟨h,by rw[hkeep b (hS.maps.fzb h)];exact e⟩⟩
    refine⟨g2,hle2,⟨fun i b h=>?_,hS.inj,fun i b h=>?_,fun b id base h=>?_,hS.asz,fun b hb=>?_,hS.maps.of (fun _ _ h=>h) (fun _ _ _=>rfl) (fun i b h=>hkeep b (hS.maps.lt h)) (fun c u r=>r.mono hle2) (fun i b h=>⟨hpo b (hS.maps.lt h),rfl⟩) (fun _ _ _ _ h=>h),hS.gl.le hle2⟩,VR.freeze (g1:=g1) (g2:=g2) (fun _=>aU _) hr hrf⟩
    ·obtain⟨cs,us',t,k1,k2,k3,k4⟩:=hS.obj i b h;exact⟨cs,us',t,k1,by rw[hkeep b (ju hS i b h)];exact k2,k3,fun j c u e1 e2=>(k4 j c u e1 e2).mono hle2⟩
    ·have k:=hS.objpub i b h;exact⟨fun hl=>by simp only[g2];rw[hpo b (ju hS i b h)];exact k.1 hl,k.2⟩
    ·obtain⟨sz,tip,k1,k2,k3,k4⟩:=hS.arr b id base h
     have hb:b<w.heap.size:=by
      rcases iw b w.heap.size with hb|hb
      ·exact hb
      ·have:=(hS.lt b hb).2;rw[show g.arr b=some (id,base)from h]at this;cases this
     exact⟨sz,tip,k1,k2,k3,by simp only[g2];rw[hpo b hb];exact k4⟩
    ·have k:=hS1.lt b hb;have hb':w.heap.size≤b:=Nat.le_trans hle.size hb;exact⟨k.1,(hS.lt b hb').2⟩
   ·cases h
 ·cases h
theorem DL:∀{l:List PV},PV.scalL l=true→∀v∈l,v.scal=true
 | [],_,v,hv=>by simp at hv
 |a::l,h,v,hv=>by
  simp only[PV.scalL,aJ]at h;rcases dI.1 hv with rfl|hv
  ·exact h.1
  ·exact DL h.2 v hv
def VR.ofScal{g1 g2:Gh}{w1 w2:World}{c:PV}{u:Value}(r:VR X g1 w1 c u):c.scal=true→VR X g2 w2 c u:=by
 induction r with
 |int k n=>intro _;exact .int k n
 |bool b=>intro _;exact .bool b
 |str s=>intro _;exact .str s
 |nilp=>intro _;exact .nilp
 |nils=>intro _;exact .nils
 |nili=>intro _;exact .nili
 |nilf=>intro _;exact .nilf
 |nilm=>intro _;exact .nilm
 |iface t v u _ ih=>intro h;simp only[PV.scal]at h;exact .iface t v u (ih h)
 |agg cs us hl _ ih=>intro h;simp only[PV.scal]at h;exact .agg cs us hl (fun j c u e1 e2=>ih j c u e1 e2 (DL h c (eB e1)))
 |tup cs us hl _ ih=>intro h;simp only[PV.scal]at h;exact .tup cs us hl (fun j c u e1 e2=>ih j c u e1 e2 (DL h c (eB e1)))
 |_=>intro h;simp[PV.scal]at h
def aDq{call:ac}(hC:dV X call)(hS:SR X g S w){f:Nat}{args:List PV}{r:PV}{us:Array Value}(hV:bX X g w args us)(h:my call f args S=some r) :
  ov X (X.fnOf f) us w (fun u w'=>dA X g w S r u w'):=by
 unfold my at h;split at h
 ·rename_i as hsol;split at h
  ·rename_i r0 S1 hc;split at h
   ·rename_i hsc;cases h;let gp:Gh:={g with pub:=gB g 0 S};let g0:Gh:=cV (gB g 0 S)
    have hPl:∀b,w.heap.size≤b→gB g 0 S b=0:=by
     intro b hb;rw[mN (fun id _ _ e=>by have:=ju hS id b e;omega)];exact(hS.lt b hb).1
    have hS0:SR X g0 cS w:=wq hPl (TX hS.gl)
    have hV0:bX X g0 w (PV.frzL as) us:=by
     obtain⟨q1,q2⟩:=lK hsol;rw[gL];refine⟨by rw[bz,←q1];exact hV.1,fun j c u e1 e2=>?_⟩;rw[iv]at e1
     cases hc':as[j]? with
     |none=>rw[hc']at e1;cases e1
     |some c'=>
      rw[hc']at e1;cases e1;have hlt:j<args.length:=by rw[q1];exact(aM.1 hc').1
      have hs:=q2 j args[j] c' (List.getElem?_eq_getElem hlt) hc';have hr:=hV.2 j args[j] u (List.getElem?_eq_getElem hlt) e2;have hr2:VR X gp w c' u:=Ue (g2:=gp) hS (n0:=0) (fun _ _ h=>h) (fun _ _ h=>h) (Uf hS) (Ug hS) (eU+1) eU (by omega) hs hr;exact VR.freeze (g1:=gp) (g2:=g0) (fun _=>aU _) hr2 (Dp _ hs)
    intro o a next Q hn
    refine hC f _ cS r S1 hc g0 w us hS0 hV0 o a next Q (fun u w' hst=>hn u w' ?_)
    obtain⟨g1,hle,hS1,hr⟩:=hst;have hkeep:∀b,b<w.heap.size→w'.heap[b]?=w.heap[b]?:=fun b hb=>hle.keep b hb (fun id h=>absurd h (by simp[g0,cV])) rfl (fun id h=>absurd h (by simp[g0,cV]))
    have hpl:∀b j,j<g.pub b→b<w.heap.size:=fun b j hj=>by
     rcases iw b w.heap.size with h1|h1
     ·exact h1
     ·rw[(hS.lt b h1).1]at hj;omega
    have hle2:Le g w g w':=⟨hle.os,hle.tape,hle.output,hle.size,fun _ _ h=>h,fun _ _ h=>h,fun _ _ h=>h,fun _=>aU _,fun b j hj=>by simp only[World.cell?];rw[hkeep b (hpl b j hj)],
     fun b us t fz e=>⟨us,by rw[hkeep b (cO.1 e).1];exact e,rfl⟩,fun id _ h=>.inl ⟨id,h⟩,fun _ _ h=>.inl h,
     fun b hb _ _ _=>hkeep b hb,fun _ _ _ _ _=>rfl,fun _ _ h=>h,fun _ _ h=>.inl h,fun b _ _ h e=>⟨h,by rw[hkeep b (hS.maps.fzb h)];exact e⟩⟩
    refine⟨g,hle2,⟨fun i b h=>?_,hS.inj,hS.objpub,hS.arr,hS.asz,fun b hb=>hS.lt b (Nat.le_trans hle.size hb),hS.maps.of (fun _ _ h=>h) (fun _ _ _=>rfl) (fun i b h=>hkeep b (hS.maps.lt h)) (fun c u r=>r.mono hle2) (fun _ _ _=>⟨rfl,rfl⟩) (fun _ _ _ _ h=>h),hS.gl.le hle2⟩,hr.ofScal hsc⟩;obtain⟨cs,us',t,k1,k2,k3,k4⟩:=hS.obj i b h;exact⟨cs,us',t,k1,by rw[hkeep b (ju hS i b h)];exact k2,k3,fun j c u e1 e2=>(k4 j c u e1 e2).mono hle2⟩
   ·cases h
  ·cases h
 ·cases h
def wr{call:ac}(hC:dV X call)(hS:SR X g S w){m:CM}{f:Nat}{args:List PV}{r:PV}{S':St}{us:Array Value}(hV:bX X g w args us)(h:dP call m f args S=some (r,S')) :
  ov X (X.fnOf f) us w (fun u w'=>dA X g w S' r u w'):=by
 cases m with
 |std=>exact hC f args S r S' h g w us hS hV
 |keep=>exact hC f args S r S' (aDo h) g w us hS hV
 |pur=>
  obtain⟨rfl,h1⟩:=DK h
  exact aDp hC hS hV h1
 |snap=>
  obtain⟨rfl,h1⟩:=DK h;exact aDq hC hS hV h1
def TY{call:ac}(hC:dV X call)(hS:SR X g S w)(hF:FR X n g w fr a){c:Go.Call}{m:CM}{f:Nat}{args:List aH}{v:PV}{S':St}
  (hf:(match c.callee with|.value (.func q)=>X.fnOf f==q|_=>false)=true)(ha:fq X c.args.toList args=true)(h:dP call m f (args.map (ev fr)) S=some (v,S')):eu X g w a (.call c) S' v:=by
 intro dst ty pos after guard next Q hn
 obtain⟨callee,cargs,tys⟩:=c;simp only at hf ha;split at hf
 ·simp only[beq_iff_eq]at hf;subst hf;have:=wr hC hS (qk hF ha) h (Oper.mk dst (.call ⟨.value (.func (X.fnOf f)),cargs,tys⟩) ty pos after guard) a next Q hn
  unfold Oper.wp
  have e:execOp a.eval ⟨dst,.call ⟨.value (.func (X.fnOf f)),cargs,tys⟩,ty,pos,after,guard⟩=callFunc (X.fnOf f) (cargs.map a.eval):=by
   simp[execOp,resolve,Act.eval,Deferred.ofValue,invoke]
  rw[e];exact this
 ·cases hf
def aDr{call:ac}(hC:dV X call)(hS:SR X g S w)(hF:FR X n g w fr a){c:Go.Call}{m:CM}{x:aH}{args:List aH}{v:PV}{S':St}{f:Nat}{caps:List PV}
  (hf:(match c.callee with|.value y=>aO X y x|_=>false)=true)(ha:fq X c.args.toList args=true)(hx:ev fr x=.fn f caps)
  (h:dP call m f (args.map (ev fr)++caps) S=some (v,S')):eu X g w a (.call c) S' v:=by
 intro dst ty pos after guard next Q hn
 obtain⟨callee,cargs,tys⟩:=c;simp only at hf ha;split at hf
 ·rename_i y;have r:=bB hF hf;rw[hx]at r;generalize hu:a.eval y=u at r
  cases r with
  |fn _ _ us hl hv=>
   have:=wr hC hS (tZ (qk hF ha) ⟨hl,hv⟩) h (Oper.mk dst (.call ⟨.value y,cargs,tys⟩) ty pos after guard) a next Q hn
   unfold Oper.wp
   have e:execOp a.eval ⟨dst,.call ⟨.value y,cargs,tys⟩,ty,pos,after,guard⟩=callFunc (X.fnOf f) (cargs.map a.eval++us):=by
    simp[execOp,resolve,hu,Deferred.ofValue,invoke]
   rw[e];exact this
 ·cases hf
def aDs{call:ac}(hC:dV X call)(hS:SR X g S w)(hF:FR X n g w fr a){c:Go.Call}{m:CM}{x:aH}{args:List aH}{v:PV}{S':St}{f:Nat}{first:List PV}
  (hf:(match c.callee with|.value y=>aO X y x|_=>false)=true)(ha:fq X c.args.toList args=true)(hx:ev fr x=.bfn f first)
  (h:dP call m f (first++args.map (ev fr)) S=some (v,S')):eu X g w a (.call c) S' v:=by
 intro dst ty pos after guard next Q hn
 obtain⟨callee,cargs,tys⟩:=c;simp only at hf ha;split at hf
 ·rename_i y;have r:=bB hF hf;rw[hx]at r;generalize hu:a.eval y=u at r
  cases r with
  |bfn _ _ us hl hv=>
   have:=wr hC hS (tZ ⟨hl,hv⟩ (qk hF ha)) h (Oper.mk dst (.call ⟨.value y,cargs,tys⟩) ty pos after guard) a next Q hn
   unfold Oper.wp
   have e:execOp a.eval ⟨dst,.call ⟨.value y,cargs,tys⟩,ty,pos,after,guard⟩=callFunc (X.fnOf f) (us++cargs.map a.eval):=by
    simp[execOp,resolve,hu,Deferred.ofValue,invoke]
   rw[e];exact this
 ·cases hf
def aDt{call:ac}(hM:ff X)(hC:dV X call)(hS:SR X g S w)(hF:FR X n g w fr a){c:Go.Call}{cm:CM}{m:Nat}{x:aH}{args:List aH}{v v0:PV}{S':St}{f t:Nat}
  (hf:(match c.callee with|.invoke y name=>X.mn m==name&&aO X y x|_=>false)=true)(ha:fq X c.args.toList args=true)(hx:ev fr x=.iface t v0)(hm:X.T.meth t m=some f)
  (h:dP call cm f (v0::args.map (ev fr)) S=some (v,S')):eu X g w a (.call c) S' v:=by
 intro dst ty pos after guard next Q hn
 obtain⟨callee,cargs,tys⟩:=c;simp only at hf ha;split at hf
 ·rename_i y name;simp only[aJ,beq_iff_eq]at hf;obtain⟨rfl,hf⟩:=hf;have r:=bB hF hf;rw[hx]at r;generalize hu:a.eval y=u at r
  cases r with
  |iface _ _ u0 hv=>
   have:=wr hC hS (aDn hv (qk hF ha)) h (Oper.mk dst (.call ⟨.invoke y (X.mn m),cargs,tys⟩) ty pos after guard) a next Q hn
   unfold Oper.wp
   have e:(execOp a.eval ⟨dst,.call ⟨.invoke y (X.mn m),cargs,tys⟩,ty,pos,after,guard⟩).run X.P w=(callFunc (X.fnOf f) (#[u0]++cargs.map a.eval)).run X.P w:=by
    have hex:(#[Value.iface (X.ty t) u0]++cargs.map a.eval).extract 1 (#[Value.iface (X.ty t) u0]++cargs.map a.eval).size=cargs.map a.eval:=by
     apply Array.ext';simp[lP]
    have h0:(#[Value.iface (X.ty t) u0]++cargs.map a.eval)[0]?=some (.iface (X.ty t) u0):=by
     rw[jU (by simp)];rfl
    simp only[execOp,resolve,hu,Sem.run_bind,Sem.run_pure,Result.andThen_ok,invoke,h0,hex,callMethod,run_program,hM t m f hm]
   rw[e];exact this
 ·cases hf
def DM(hS:SR X g S w)(hF:FR X n g w fr a){ag:Bool}{m:Nat}{x:aH}{x':Operand}{t:TypeId}{id off:Nat}{cs:List PV}(ht:jE X.P t ag m=true)(hx:aO X x' x=true)
  (he:ev fr x=.ptr id off)(hcs:S.objs[id]?=some cs){v:PV}(hv:bG ag m (cs.drop off)=some v):cN X g w a (.load t x') v:=by
 intro dst ty pos after guard;have r:=bB hF hx;rw[he]at r;generalize hu:a.eval x'=u at r
 cases r with
 |ptr _ _ b hb=>
  have hc:=(ot hS hb hcs).drop off;rw[dO]at hc;obtain⟨u,h4,h5⟩:=wk ht hv hc;exact⟨u,by simp[execOp,hu,Instr.loadAt,Instr.sureAddr,h4],h5⟩
def TZ(hS:SR X g S w)(hF:FR X n g w fr a){m:Nat}{p x:aH}{p' x':Operand}{t:TypeId}{id off:Nat}{cs:List PV}
  (ht:(match X.P.info? t with|some i=>i.size==m|none=>false)=true)(hp:aO X p' p=true)(hx:aO X x' x=true)(he:ev fr p=.ptr id off)(hcs:S.objs[id]?=some cs)
  (hm:(ev fr x).cells.length=m)(hoff:off+m≤cs.length)(hone:(ev fr x).cells.all PV.one=true) :
  eu X g w a (.store t p' x') {S with objs:=S.objs.set id (ak cs off (ev fr x).cells)} .und:=by
 intro dst ty pos after guard next Q hn
 have r:=bB hF hp;rw[he]at r;have rx:=bB hF hx;generalize hu:a.eval p'=u at r
 cases r with
 |ptr _ _ b hb=>
  have hsz:(Go.sizeOf t).run X.P w=.ok m w:=by
   split at ht
   ·rename_i i hi;simp only[beq_iff_eq]at ht;simp[Go.sizeOf,typeInfo,hi,ht]
   ·cases ht
  obtain⟨w',h1,h2⟩:=aDl hS hb hcs rx hone hm hoff hsz;unfold Oper.wp
  have e:(execOp a.eval ⟨dst,.store t p' x',ty,pos,after,guard⟩).run X.P w=.ok .skip w':=by
   simp only[execOp,Sem.run_bind,hu,h1,Result.andThen_ok,Sem.run_pure]
  rw[e];exact hn undef w' h2
def aDu(hS:SR X g S w)(hF:FR X n g w fr a){ro:Bool}{x:aH}{x':Operand}{t:TypeId}(hx:aO X x' x=true)(hone:(ev fr x).cells.all PV.one=true){v:PV}{S':St}
  (h:(if ro then(PV.ref (ev fr x).cells,S)else bt S (ev fr x).cells)=(v,S')):eu X g w a (.box t x') S' v:=by
 intro dst ty pos after guard next Q hn
 have r:=ou (bB hF hx) hone;unfold Oper.wp
 have e:(execOp a.eval ⟨dst,.box t x',ty,pos,after,guard⟩).run X.P w=.ok (.value (.pointer (some ⟨w.heap.size,0,none⟩))) (w.alloc (.cells (a.eval x').cells t)):=by
  simp[execOp,Instr.box,newVar,newRow]
 rw[e];refine hn _ _ ?_;cases ro
 ·simp only[cH,if_false]at h;have:=TQ hS r t;rw[h]at this;exact this
 ·simp only[if_true]at h;cases h;exact DH hS r t
def DN{P:Program}{t:TypeId}{z:List PV}(h:kw P t z=true):∃u,(zeroValue t).run P w=.ok u w∧kq u.cells.toList z=true:=by
 unfold kw at h;split at h
 ·rename_i i hi;split at h
  ·rename_i u hu;exact⟨u,by simp[zeroValue,typeInfo,hi,hu],h⟩
  ·cases h
 ·cases h
def aDv(hS:SR X g S w){ro:Bool}{z:List PV}{t:TypeId}(hz:kw X.P t z=true){v:PV}{S':St}
  (h:(if ro then(PV.ref z,S)else bt S z)=(v,S')):eu X g w a (.alloc t) S' v:=by
 intro dst ty pos after guard next Q hn
 obtain⟨u,h1,h2⟩:=DN (w:=w) hz;have r0:=oj (X:=X) (g:=g) (w:=w) h2;have r:bX X g w z u.cells:=⟨by simpa using r0.1,fun j c x e1 e2=>r0.2 j c x e1 (by simpa using e2)⟩;unfold Oper.wp
 have e:(execOp a.eval ⟨dst,.alloc t,ty,pos,after,guard⟩).run X.P w=.ok (.value (.pointer (some ⟨w.heap.size,0,none⟩))) (w.alloc (.cells u.cells t)):=by
  simp[execOp,Instr.alloc,newVar,newRow,h1]
 rw[e];refine hn _ _ ?_;cases ro
 ·simp only[cH,if_false]at h;have:=TQ hS r t;rw[h]at this;exact this
 ·simp only[if_true]at h;cases h;exact DH hS r t
def aDw(hS:SR X g S w)(hF:FR X n g w fr a){ro:Bool}{v:PV}{S':St}{x:aH}{x':Operand}{s d:TypeId}{str:List UInt8}(hs:(X.P.underlying s).isSome=true)
  (hd:(match X.P.underlying d with|some (.slice e)=>ic X.P e .u8|_=>false)=true)(hx:aO X x' x=true)(he:ev fr x=.str str)
  (h:(if ro then(PV.sl none (aI str) [],S)else dy S 1 (aI str))=(v,S')):eu X g w a (.convert s d x') S' v:=by
 intro dst ty pos after guard next Q hn
 have r:=bB hF hx;rw[he]at r;generalize hu:a.eval x'=u at r;cases r;split at hd
 ·rename_i e hue;have hu8:=tU hd;obtain⟨ds,hds⟩:=rS.1 hs;have hsize:(ByteArray.mk str.toArray).size=str.length:=by simp[ByteArray.size]
  obtain⟨cap,hcap⟩:∃cap,cap=(Question.appendCap str.length 0 e).cut (w.tape w.drawn (.appendCap str.length 0 e)):=⟨_,rfl⟩
  have hge:str.length≤cap:=by
   rw[hcap];simp only[Question.cut];omega
  let us:Array Value:=(str.map fun b=>Value.int .u8 b.toNat).toArray++Array.replicate (cap-str.length) (.int .u8 0);have hus:us.size=cap:=by simp[us];omega
  have hrun:(execOp a.eval ⟨dst,.convert s d x',ty,pos,after,guard⟩).run X.P w =
    .ok (.value (.slice (some ⟨w.heap.size,0,none⟩) str.length cap)) ((w.drew.alloc (.cells us e)).freeze ⟨w.heap.size,cap,none⟩ 1):=by
   have hsh:(w.drew.alloc (.cells us e)).shape? w.heap.size=some (e,us.size):=by
    simp only[World.shape?,TW,dh,if_pos]
   simp only[execOp,Sem.run_bind,hu,convert,run_underlying hds,run_underlying hue,run_underlying hu8,Result.andThen_ok,Conv.stringToBytes,run_choose,Question.forced,hsize,cH,if_false,←hcap,newRow,run_newObj,Sem.run_pure];have e1:((str.toArray.map fun b=>Value.int .u8 b.toNat)++Array.replicate (cap-str.length) (Value.int .u8 0))=us:=by simp[us]
   simp only[e1];have e2:({heap:=w.heap.push (.cells us e),tape:=w.tape,drawn:=w.drawn+1,os:=w.os,output:=w.output}:World)=w.drew.alloc (.cells us e):=rfl;rw[e2];simp only[markStringish,Sem.run_bind,run_shape,Result.andThen_ok];rw[hsh];simp[hus]
  unfold Oper.wp;rw[hrun];refine hn _ _ ?_
  have hheap:((w.drew.alloc (.cells us e)).freeze ⟨w.heap.size,cap,none⟩ 1).heap=w.heap.push (.cells us e (cap,cap+1)):=by
   simp only[World.freeze,TW];simp only[Nat.one_ne_zero,if_false];apply Array.ext_getElem?;intro k;rw[nj,dh,dh];by_cases hk:k=w.heap.size
   ·subst hk;simp
   ·rw[if_neg (Ne.symm hk),if_neg hk,if_neg hk]
  have hone:∀x∈aI str,x.cells=[x]∧x.one=true:=by
   intro x hx;simp only[aI,List.mem_map]at hx;obtain⟨b,_,rfl⟩:=hx;exact⟨rfl,rfl⟩
  have hcells:∀(j:Nat) (c:PV),((aI str).flatMap PV.cells)[j]?=some c→∃u,us[j]?=some u∧VR X g w c u:=by
   intro j c hc;rw[Cv (fun x hx=>(hone x hx).1)]at hc;simp only[aI,iv]at hc
   cases hj:str[j]? with
   |none=>rw[hj]at hc;cases hc
   |some b=>
    rw[hj]at hc;cases hc;have hjl:=(aM.1 hj).1;refine⟨_,?_,.int _ _⟩;simp only[us];rw[jU (by simpa using hjl)];simp[hj]
  have e1:((w.drew.alloc (.cells us e)).freeze ⟨w.heap.size,cap,none⟩ 1).os=w.os:=by simp[World.freeze];rfl
  have e2:((w.drew.alloc (.cells us e)).freeze ⟨w.heap.size,cap,none⟩ 1).tape=w.tape:=by simp[World.freeze]
  have e3:((w.drew.alloc (.cells us e)).freeze ⟨w.heap.size,cap,none⟩ 1).output=w.output:=by simp[World.freeze];rfl
  cases ro
  ·simp only[cH,if_false]at h
   have hst:=qj hS (es:=aI str) (us:=us) (t:=e) (lo:=cap) (hi:=cap+1) (sz:=1) (cap:=cap)
    (w':=(w.drew.alloc (.cells us e)).freeze ⟨w.heap.size,cap,none⟩ 1) hheap e1 e2 e3 (by omega)
    (fun x hx=>by rw[(hone x hx).1];rfl) (fun x hx=>by rw[(hone x hx).1];simp[(hone x hx).2]) (by simpa[aI]using hge) (by omega) (.inr (by omega)) hcells
   rw[h]at hst;simpa[aI]using hst
  ·simp only[if_true]at h;cases h
   have hst:=TS hS (es:=aI str) (us:=us) (t:=e) (lo:=cap) (hi:=cap+1) (sz:=1) (cap:=cap)
    (w':=(w.drew.alloc (.cells us e)).freeze ⟨w.heap.size,cap,none⟩ 1) hheap e1 e2 e3 (by omega)
    (fun x hx=>by rw[(hone x hx).1];rfl) (fun x hx=>by rw[(hone x hx).1];simp[(hone x hx).2]) (by simpa[aI]using hge) (by omega) hcells
   simpa[aI]using hst
 ·cases hd
end
end Ps
