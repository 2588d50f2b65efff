/- One operation, whatever it does. -/
import Derived.Test.YtpjmpaidcidjgaaGreatDoorAbbKw
import Derived.Test.YtpjmpaidcidjgaaGreatDoorSimObKw
set_option linter.defProp false
namespace Ps
open Go
theorem js{f:PV→Option PV}:∀{l m:List PV},cT f l=some m→l.length=m.length∧∀(j:Nat) (c d:PV),l[j]?=some c→m[j]?=some d→f c=some d
 | [],m,h=>by cases h;exact⟨rfl,fun j c d h=>by simp at h⟩
 |a::l,m,h=>by
  simp only[cT]at h;split at h
  ·rename_i b hb;split at h
   ·rename_i m' hm;cases h;obtain⟨h1,h2⟩:=js hm;refine⟨by simp[h1],fun j c d hc hd=>?_⟩
    cases j with
    |zero=>simp at hc hd;subst hc;subst hd;exact hb
    |succ j=>exact h2 j c d (by simpa using hc) (by simpa using hd)
   ·cases h
  ·cases h
theorem gT:∀{l:List PV},(∀v∈l,v.free=true)→PV.freeL l=true
 | [],_=>rfl
 |a::l,h=>by simp only[PV.freeL,aJ];exact⟨h a (by simp),gT fun v hv=>h v (by simp[hv])⟩
def lf{f:PV→Option PV}{l m:List PV}(h:cT f l=some m)(hf:∀c d,f c=some d→d.free=true):PV.freeL m=true:=by
 obtain⟨h1,h2⟩:=js h;apply gT;intro v hv;obtain⟨j,hj⟩:=gC hv;have hlt:j<l.length:=by rw[h1];exact(aO.1 hj).1
 exact hf _ _ (h2 j l[j] v (bX hlt) hj)
theorem SN{sz:Nat}:∀(n:Nat) (cs:List PV),PV.freeL cs=true→PV.freeL (ct sz n cs)=true
 |0,_,_=>rfl
 |n+1,cs,h=>by
  have hm:=dq h;have h1:PV.freeL (cs.take sz)=true:=gT fun v hv=>hm v (fm hv);have h2:PV.freeL (cs.drop sz)=true:=gT fun v hv=>hm v (fT hv);simp only[ct,PV.freeL,aJ];refine⟨?_,SN n _ h2⟩;unfold qn;split
  ·rename_i c hc;rw[hc]at h1;simp only[PV.freeL,aJ]at h1;split
   ·exact h1.1
   ·simp[PV.free,PV.freeL,h1.1]
  ·exact h1
theorem AJ{objs:List (List PV)}{n0:Nat}:∀(k:Nat) {v d:PV},sol objs n0 k v=some d→d.free=true
 |0,v,d,h=>by simp[sol]at h
 |k+1,v,d,h=>by
  have ih:∀c d,sol objs n0 k c=some d→d.free=true:=fun c d h=>AJ k h;unfold sol at h;split at h
  ·rename_i hf;cases h;exact hf
  ·cases v<;>simp only at h<;>try (cases h;done)
   case ptr id off=>
    split at h
    ·split at h
     ·split at h
      ·split at h
       ·rename_i hm;cases h;simp only[PV.free];exact lf hm ih
       ·cases h
      ·cases h
     ·cases h
    ·cases h
   case ref cs=>
    split at h
    ·rename_i hm;cases h;simp only[PV.free];exact lf hm ih
    ·cases h
   case iface t v=>
    split at h
    ·rename_i hm;cases h;simp only[PV.free];exact ih _ _ hm
    ·cases h
   case agg cs=>
    split at h
    ·rename_i hm;cases h;simp only[PV.free];exact lf hm ih
    ·cases h
   case tup cs=>
    split at h
    ·rename_i hm;cases h;simp only[PV.free];exact lf hm ih
    ·cases h
   case fn f cs=>
    split at h
    ·rename_i hm;cases h;simp only[PV.free];exact lf hm ih
    ·cases h
   case sl tip es sp=>
    split at h
    ·rename_i h1 h2;cases h;simp only[PV.free,aJ];exact⟨lf h1 ih,lf h2 ih⟩
    ·cases h
   case emp=>cases h;rfl
   case osl id off len sz=>
    split at h
    ·split at h
     ·split at h
      ·split at h
       ·rename_i hm;cases h;simp only[PV.free,aJ];exact⟨SN _ _ (lf hm ih),rfl⟩
       ·cases h
      ·cases h
     ·cases h
    ·cases h
def iw(objs:List (List PV))(n0 K:Nat)(cs ds:List PV):Prop:=
 cs.length=ds.length∧∀(j:Nat) (c d:PV),cs[j]?=some c→ds[j]?=some d→∃k,k<K∧sol objs n0 k c=some d
def SO{objs:List (List PV)}{n0 k:Nat}{cs ds:List PV}(h:cT (sol objs n0 k) cs=some ds):iw objs n0 (k+1) cs ds:=
 ⟨(js h).1,fun j c d h1 h2=>⟨k,by omega,(js h).2 j c d h1 h2⟩⟩
def iw.append{objs:List (List PV)}{n0 K:Nat}{a b c d:List PV}(h:iw objs n0 K a b)(k:iw objs n0 K c d):iw objs n0 K (a++c) (b++d):=by
 refine⟨by simp[h.1,k.1],fun j x y e1 e2=>?_⟩;by_cases hj:j<a.length
 ·rw[bF hj]at e1;rw[bF (by rw[←h.1];exact hj)]at e2;exact h.2 j x y e1 e2
 ·rw[eJ (by omega)]at e1;rw[eJ (by rw[←h.1];omega),←h.1]at e2;exact k.2 _ x y e1 e2
def nP{objs:List (List PV)}{n0 k:Nat}{v:PV}(h:v.free=true):sol objs n0 (k+1) v=some v:=by
 unfold sol;rw[if_pos h]
def SP{objs:List (List PV)}{n0 k:Nat}{c d:PV}(hs:sol objs n0 k c=some d)(ho:c.one=true):d.one=true:=by
 cases k with
 |zero=>simp[sol]at hs
 |succ k=>
  unfold sol at hs;split at hs
  ·cases hs;exact ho
  ·cases c<;>simp only at hs<;>(first|(cases hs;done)|(simp[PV.one]at ho;done)|skip)
   all_goals
    repeat (first|(cases hs;done)|split at hs)
    all_goals first|(cases hs;done)|(cases hs;rfl)
def AK{objs:List (List PV)}{n0 k:Nat}{v d:PV}(h:sol objs n0 k v=some d):iw objs n0 (k+1) v.cells d.cells∧(v.cells.all PV.one=true→d.cells.all PV.one=true):=by
 cases k with
 |zero=>simp[sol]at h
 |succ k=>
  have h0:=h;unfold sol at h;split at h
  ·rename_i hf;cases h;refine⟨⟨rfl,fun j c d h1 h2=>?_⟩,id⟩;rw[h1]at h2;cases h2;exact⟨k+1,by omega,nP (zW hf c (dY h1))⟩
  ·have one:∀{v d:PV},sol objs n0 (k+1) v=some d→iw objs n0 (k+2) [v] [d]:=fun h=>⟨rfl,fun j c e h1 h2=>by
    cases j with
    |zero=>simp at h1 h2;subst h1;subst h2;exact⟨k+1,by omega,h⟩
    |succ j=>simp at h1⟩
   cases v<;>simp only at h<;>try (cases h;done)
   case agg cs hnf=>
    split at h
    ·rename_i ds hm;cases h;obtain⟨q1,q2⟩:=js hm;refine⟨⟨q1,fun j c d e1 e2=>⟨k,by omega,q2 j c d e1 e2⟩⟩,fun ho=>?_⟩;simp only[PV.cells]at ho ⊢;rw[List.all_eq_true]at ho ⊢;intro x hx;obtain⟨j,hj⟩:=gC hx;have hlt:j<cs.length:=by rw[q1];exact(aO.1 hj).1
     exact SP (q2 j cs[j] x (bX hlt) hj) (ho _ (by simp))
    ·cases h
   all_goals
    repeat (first|(cases h;done)|split at h)
    all_goals first
     |(cases h;done)
     |(cases h;exact⟨one h0,fun _=>rfl⟩)
     |(cases h;exact⟨one h0,fun ho=>by simp[PV.cells,PV.one]at ho⟩)
theorem SQ{objs:List (List PV)}{n0 K:Nat}:∀{es ds:List PV},iw objs n0 K es ds→iw objs n0 K (es.flatMap PV.cells) (ds.flatMap PV.cells)
 | [],[],_=>⟨rfl,fun j c d h=>by simp at h⟩
 | [],_::_,h=>absurd h.1 (by simp)
 |_::_,[],h=>absurd h.1 (by simp)
 |e::es,d::ds,h=>by
  simp only[dC];obtain⟨k,hk,hs⟩:=h.2 0 e d rfl rfl;have h1:=(AK hs).1;refine iw.append ⟨h1.1,fun j c x e1 e2=>?_⟩ (SQ ⟨by simpa using h.1,fun j c x e1 e2=>h.2 (j+1) c x (by simpa using e1) (by simpa using e2)⟩);obtain⟨k',hk',hs'⟩:=h1.2 j c x e1 e2;exact⟨k',by omega,hs'⟩
def iw.elem{objs:List (List PV)}{n0 K:Nat}{es ds:List PV}(h:iw objs n0 K es ds){d:PV}(hd:d∈ds):∃e∈es,∃k,k<K∧sol objs n0 k e=some d:=by
 obtain⟨j,hj⟩:=gC hd;have hlt:j<es.length:=by rw[h.1];exact(aO.1 hj).1
 exact⟨es[j],by simp,h.2 j es[j] d (bX hlt) hj⟩
section
variable {X : Tie} {g1 g2 : Gh} {w1 : World} {S1 : St}
def SS(hS1:SR X g1 S1 w1){n0:Nat}(h2:∀b x,g1.arr b=some x→g2.arr b=some x)(h3:∀id sz,g1.asz id=some sz→g2.asz id=some sz)(h4:∀b,g1.pub b≤g2.pub b)
  (hp:∀id b,n0≤id→g1.obj id=some b→∀cs,S1.objs[id]?=some cs→cs.length≤g2.pub b) :
  ∀(K k:Nat),k<K→∀{v d:PV} {u:Value},sol S1.objs n0 k v=some d→VR X g1 w1 v u→VR X g2 w1 d u:=by
 intro K
 induction K with
 |zero=>intro k hk;omega
 |succ K ih=>
  intro k hk v d u h r
  cases k with
  |zero=>simp[sol]at h
  |succ k=>
   unfold sol at h;split at h
   ·rename_i hf;cases h;exact r.ofFree h2 h3 h4 hf
   ·have ihk:∀{v d:PV} {u:Value},sol S1.objs n0 k v=some d→VR X g1 w1 v u→VR X g2 w1 d u:=fun h r=>ih k (by omega) h r
    have lst:∀{cs ds:List PV} {us:Array Value},cT (sol S1.objs n0 k) cs=some ds→cs.length=us.size→(∀(j:Nat) (c:PV) (u:Value),cs[j]?=some c→us[j]?=some u→VR X g1 w1 c u) →
      ds.length=us.size∧∀(j:Nat) (c:PV) (u:Value),ds[j]?=some c→us[j]?=some u→VR X g2 w1 c u:=by
     intro cs ds us hm hl hv;obtain⟨q1,q2⟩:=js hm;refine⟨by omega,fun j c u e1 e2=>?_⟩;have hlt:j<cs.length:=by rw[q1];exact(aO.1 e1).1
     exact ihk (q2 j cs[j] c (bX hlt) e1) (hv j cs[j] u (bX hlt) e2)
    cases r with
    |ptr id off b hb=>
     simp only at h;split at h
     ·rename_i hn0;split at h
      ·rename_i cs hcs;split at h
       ·rename_i hoff;split at h
        ·rename_i ds hm;cases h;obtain⟨q1,q2⟩:=js hm;obtain⟨us,hus⟩:=(mz hS1 hb hcs).drop off;rw[cy]at hus;have hlen:ds.length=cs.length-off:=by rw[←q1];simp
         refine .ref ds b off us (by have:=hp id b hn0 hb cs hcs;omega) (fun j hj=>?_) (fun j c hc=>?_)
         ·have hlt:j<(cs.drop off).length:=by rw[q1];exact hj
          exact(hus j _ (bX hlt)).1
         ·have hlt:j<(cs.drop off).length:=by rw[q1];exact(aO.1 hc).1
          exact ihk (q2 j _ c (bX hlt) hc) (hus j _ (bX hlt)).2
        ·cases h
       ·cases h
      ·cases h
     ·cases h
    |ref cs b o us hpub hc hv=>
     simp only at h;split at h
     ·rename_i ds hm;cases h;obtain⟨q1,q2⟩:=js hm;refine .ref ds b o us (by have:=h4 b;omega) (fun j hj=>hc j (by omega)) (fun j c hc'=>?_);have hlt:j<cs.length:=by rw[q1];exact(aO.1 hc').1
      exact ihk (q2 j _ c (bX hlt) hc') (hv j _ (bX hlt))
     ·cases h
    |slz aa=>
     simp only[cT]at h;cases h
     exact .slz aa
    |sl tip es sp b o cap sz us hcap hpos hsz hpub hc hv hlink hone=>
     simp only at h;split at h
     ·rename_i a c ha hc';cases h;have s1:=SO ha;have s2:=SO hc';have s:=s1.append s2;have sf:=SQ s;have l1:=s1.1;have l2:=s2.1
      have:=VR.sl (X:=X) (g:=g2) (w:=w1) tip a c b o cap sz us (by omega) hpos
       (fun e he=>by
        obtain⟨e',he',k',_,hs'⟩:=s.elem he;rw[←(AK hs').1.1,hsz e' he'])
       (by have:=h4 b;rw[←l1,←l2];omega) (fun j hj=>hc j (by rw[l1,l2];exact hj))
       (fun j x hx=>by
        have hlt:j<((es++sp).flatMap PV.cells).length:=by rw[sf.1];exact(aO.1 hx).1
        obtain⟨k',hk',hs'⟩:=sf.2 j _ x (bX hlt) hx;exact ih k' (by omega) hs' (hv j _ (bX hlt)))
       (fun id e ht hs=>by
        subst hs;have:sp=[]:=List.length_eq_zero_iff.1 (by simpa using l2);obtain⟨k1,k2,k3⟩:=hlink id e ht this;refine⟨by omega,h3 _ _ k2,?_⟩;rcases k3 with k3|⟨base,k4,k5,k6⟩
        ·exact .inl (by omega)
        ·exact .inr ⟨base,h2 _ _ k4,by rw[←l1];exact k5,k6⟩)
       (fun e he=>by
        obtain⟨e',he',k',_,hs'⟩:=s.elem he;exact(AK hs').2 (hone e' he'))
      rw[l1];exact this
     ·cases h
    |emp a=>simp only at h;cases h;exact .slz a
    |osl id off len sz cap b hb hl hr=>
     simp only at h;split at h
     ·rename_i hn0;split at h
      ·rename_i cs hcs;split at h
       ·rename_i hoff;split at h
        ·rename_i ds hm;cases h;obtain⟨q1,q2⟩:=js hm;obtain⟨us,hus⟩:=(mz hS1 hb hcs).drop off;rw[cy]at hus;have hlen:ds.length=len*sz:=by rw[←q1];simp;omega
         have hone:ds.all PV.one=true:=by
          rw[List.all_eq_true];intro x hx;obtain⟨j,hj⟩:=gC hx;have hlt:j<((cs.drop off).take (len*sz)).length:=by rw[q1];exact(aO.1 hj).1
          have hmem:=(List.all_eq_true.1 hoff.2) _ (cr hlt);exact SP (q2 j _ x (bX hlt) hj) hmem
         have htk:ds.take (len*sz)=ds:=by rw[←hlen];exact List.take_length
         have hfl:=zb (sz:=sz) len ds (by omega) (by rw[htk];exact hone);rw[htk]at hfl;have hmm:=uK (sz:=sz) len ds (by omega) (by rw[htk];exact hone)
         have:=VR.sl (X:=X) (g:=g2) (w:=w1) none (ct sz len ds) [] b off cap sz us (by rw[lV];simpa using hl) hn0.2
          (fun e he=>by rw[dR]at he;exact(hmm e he).1)
          (by rw[lV];have:=hp id b hn0.1 hb cs hcs;simp;omega)
          (fun j hj=>by
           rw[lV]at hj;have hj':j<(cs.drop off).length:=by simp at hj ⊢;omega
           exact(hus j _ (bX hj')).1)
          (fun j c hc=>by
           rw[dR,hfl]at hc;have hjl:j<ds.length:=(aO.1 hc).1;have hlt:j<((cs.drop off).take (len*sz)).length:=by rw[q1];exact hjl
           have e1:((cs.drop off).take (len*sz))[j]?=some ((cs.drop off).take (len*sz))[j]:=bX hlt;refine ihk (q2 j _ c e1 hc) ?_;rw[cx (by omega)]at e1;exact(hus j _ e1).2)
          (fun id e ht _=>by cases ht) (fun e he=>by rw[dR]at he;exact(hmm e he).2)
         rw[lV]at this;exact this
        ·cases h
       ·cases h
      ·cases h
     ·cases h
    |iface t v u hv=>
     simp only at h;split at h
     ·rename_i hm;cases h;exact .iface t _ u (ihk hm hv)
     ·cases h
    |agg cs us hl hv=>
     simp only at h;split at h
     ·rename_i hm;cases h;obtain⟨q1,q2⟩:=lst hm hl hv;exact .agg _ us q1 q2
     ·cases h
    |tup cs us hl hv=>
     simp only at h;split at h
     ·rename_i hm;cases h;obtain⟨q1,q2⟩:=lst hm hl hv;exact .tup _ us q1 q2
     ·cases h
    |fn f cs us hl hv=>
     simp only at h;split at h
     ·rename_i hm;cases h;obtain⟨q1,q2⟩:=lst hm hl hv;exact .fn f _ us q1 q2
     ·cases h
    |_=>simp only at h;cases h
end
open Classical in
noncomputable def fJ (g1:Gh)(n0:Nat)(S1:St)(b:Nat):Nat:=
 if h:∃id,n0≤id∧g1.obj id=some b∧cL S1 id then((S1.objs[Classical.choose h]?).getD []).length else g1.pub b
section
variable {X : Tie} {g1 : Gh} {w1 : World} {S1 : St} {n0 : Nat}
def kZ{b:Nat}(h:∀id,n0≤id→cL S1 id→g1.obj id≠some b):fJ g1 n0 S1 b=g1.pub b:=by
 unfold fJ;rw[dif_neg];rintro⟨id,h1,h2,h3⟩;exact h id h1 h3 h2
def ST(hS1:SR X g1 S1 w1)(b:Nat):g1.pub b≤fJ g1 n0 S1 b:=by
 unfold fJ;split
 ·rename_i h;obtain⟨id,h1,h2,h3⟩:=h;rw[(hS1.objpub id b h2).1 h3];exact bb _
 ·exact aX _
def SU(hS1:SR X g1 S1 w1)(id b:Nat)(hn:n0≤id)(hb:g1.obj id=some b)(cs:List PV)(hcs:S1.objs[id]?=some cs):cs.length≤fJ g1 n0 S1 b:=by
 cases cs with
 |nil=>exact bb _
 |cons c l=>
 have hlv:cL S1 id:=⟨c,l,hcs⟩;unfold fJ;have h:∃id,n0≤id∧g1.obj id=some b∧cL S1 id:=⟨id,hn,hb,hlv⟩;rw[dif_pos h];obtain⟨_,c1,c2⟩:=Classical.choose_spec h;have e1:=hS1.inj _ _ _ c1 hb hlv;have e2:=hS1.inj _ _ _ hb c1 c2;have:Classical.choose h=id:=by omega
 rw[this,hcs];exact aX _
end
end Ps
set_option linter.defProp false
namespace Ps
open Go
section
variable {X : Tie} {g : Gh} {w : World} {n : Dn} {fr : Fr} {a : Act} {S : St}
def dr(X:Tie)(g:Gh)(w:World)(a:Act)(op:Go.Op)(S':St)(v:PV):Prop:=
 ∀(dst:Option Tmp) (ty:TypeId) (pos:String) (after:Array Edge) (guard:Option (Nat×Bool)) (next:Act→World→Prop) (Q:Exit→Act→World→Prop),
  (∀u w',cU X g w S' v u w'→next (a.put dst u) w')→(Oper.mk dst op ty pos after guard).wp X.P a w next Q
def cH.opWp(hS:SR X g S w){op:Go.Op}{v:PV}(h:cH X g w a op v):dr X g w a op S v:=by
 intro dst ty pos after guard next Q hn
 obtain⟨u,h1,h2⟩:=h dst ty pos after guard;unfold Oper.wp;rw[h1];exact hn u w ⟨g,Le.refl g w,hS,h2⟩
def nB(X:Tie)(f:FuncId)(us:Array Value)(w:World)(K:Value→World→Prop):Prop:=
 ∀(o:Oper) (a:Act) (next:Act→World→Prop) (Q:Exit→Act→World→Prop),(∀u w',K u w'→next (a.put o.dst u) w')→o.upon X.P a next Q ((callFunc f us).run X.P w)
def cu(X:Tie)(call:af):Prop:=
 ∀(f:Nat) (args:List PV) (S:St) (r:PV) (S':St),call f args S=some (r,S')→∀(g:Gh) (w:World) (us:Array Value),SR X g S w→bQ X g w args us →
  nB X (X.fnOf f) us w (fun u w'=>cU X g w S' r u w')
def eZ(X:Tie):Prop:=
 ∀(t m f:Nat),X.T.meth t m=some f→∀(u:Value) (w:World),(Go.method (X.P.types.size+Made.depth) (X.ty t) u (X.mn m)).run X.P w=.ok (X.fnOf f,u) w
def oc(hF:FR X n g w fr a){xs:Array Operand}{ys:List aG}(h:fF X xs.toList ys=true):bQ X g w (ys.map (ev fr)) (xs.map a.eval):=by
 obtain⟨h1,h2⟩:=uD hF h;exact⟨by simpa using h1,fun j c u e1 e2=>h2 j c u e1 (by simpa using e2)⟩
def rN{cs ds:List PV}{us vs:Array Value}(h:bQ X g w cs us)(k:bQ X g w ds vs):bQ X g w (cs++ds) (us++vs):=by
 refine⟨by simp[h.1,k.1],fun j c u e1 e2=>?_⟩;by_cases hj:j<cs.length
 ·rw[bF hj]at e1;rw[iR (by rw[←h.1];exact hj)]at e2;exact h.2 j c u e1 e2
 ·rw[eJ (by omega)]at e1;rw[Ai (by rw[←h.1];omega)]at e2;rw[←h.1]at e2;exact k.2 _ c u e1 e2
def aBG{c:PV}{cs:List PV}{u:Value}{us:Array Value}(h:VR X g w c u)(k:bQ X g w cs us):bQ X g w (c::cs) (#[u]++us):=by
 refine rN (cs:=[c]) ⟨rfl,fun j c' u' e1 e2=>?_⟩ k
 cases j with
 |zero=>simp at e1 e2;subst e1;subst e2;exact h
 |succ j=>simp at e1
def aBH{keep:Bool}{S:St}{q:Option (PV×St)}{v:PV}{S':St}(h:ma keep S q=some (v,S')):q=some (v,S'):=by
 unfold ma at h;split at h
 ·cases h
 ·split at h
  ·split at h
   ·cases h;rfl
   ·cases h
  ·cases h;rfl
def zc{S S':St}{q:Option PV}{v:PV}(h:dL S q=some (v,S')):S'=S∧q=some v:=by
 cases q with
 |none=>cases h
 |some x=>cases h;exact⟨rfl,rfl⟩
def cI(p:Nat→Nat):Gh:=⟨fun _=>none,fun _=>none,fun _=>none,p,fun _=>none,fun _=>false⟩
def RJ{p:Nat→Nat}(h:im X g w):im X (cI p) w:=h.sub (fun _ _ e=>absurd e (by simp[cI])) (fun _ _=>rfl) (fun _ _ e=>absurd e (by simp[cI]))
def uL{p:Nat→Nat}(h:∀b,w.heap.size≤b→p b=0)(hg:im X (cI p) w):SR X (cI p) bT w where
 obj:=fun id b h=>absurd h (by simp[cI])
 inj:=fun i j b h=>absurd h (by simp[cI])
 objpub:=fun i b h=>absurd h (by simp[cI])
 arr:=fun b id base h=>absurd h (by simp[cI])
 asz:=fun id sz h=>absurd h (by simp[cI])
 maps:=ik.no (fun i=>rfl)
 lt:=fun b hb=>⟨h b hb,rfl⟩
 gl:=hg
def aBI{call:af}(hC:cu X call)(hS:SR X g S w){f:Nat}{args:List PV}{r:PV}{us:Array Value}(hV:bQ X g w args us)(h:iJ call f args=some r) :
  nB X (X.fnOf f) us w (fun u w'=>cU X g w S r u w'):=by
 unfold iJ at h;split at h
 ·rename_i hfree
  cases hc:call f (PV.frzL args) bT with
  |none=>rw[hc]at h;cases h
  |some q=>
   obtain⟨r0,S1⟩:=q;rw[hc]at h;simp only[tW]at h;split at h
   ·rename_i hrf;cases h;let g0:Gh:=cI g.pub;have hS0:SR X g0 bT w:=uL (fun b hb=>(hS.lt b hb).1) (RJ hS.gl)
    have hV0:bQ X g0 w (PV.frzL args) us:=by
     rw[fH];refine⟨by simpa using hV.1,fun j c u e1 e2=>?_⟩;rw[gB]at e1
     cases hc':args[j]? with
     |none=>rw[hc']at e1;cases e1
     |some c'=>rw[hc']at e1;cases e1;exact VR.freeze (g1:=g) (g2:=g0) (fun _=>aX _) (hV.2 j c' u hc' e2) (dq hfree c' (dY hc'))
    intro o a next Q hn
    refine hC f _ bT r0 S1 hc g0 w us hS0 hV0 o a next Q (fun u w' hst=>hn u w' ?_)
    obtain⟨g1,hle,hS1,hr⟩:=hst;let g2:Gh:={g with pub:=g1.pub};have hpo:∀b,b<w.heap.size→g1.pub b=g.pub b:=fun b hb=>hle.pubN b hb (fun id h=>absurd h (by simp[g0,cI])) rfl (fun id h=>absurd h (by simp[g0,cI]));have hkeep:∀b,b<w.heap.size→w'.heap[b]?=w.heap[b]?:=fun b hb=>hle.keep b hb (fun id h=>absurd h (by simp[g0,cI])) rfl (fun id h=>absurd h (by simp[g0,cI]))
    have hle2:Le g w g2 w':=⟨hle.os,hle.tape,hle.output,hle.size,fun _ _ h=>h,fun _ _ h=>h,fun _ _ h=>h,hle.pub,hle.cell,hle.shape,fun id _ h=>.inl ⟨id,h⟩,fun _ _ h=>.inl h,
     fun b hb _ _ _=>hkeep b hb,fun b hb _ _ _=>hpo b hb,fun _ _ h=>h,fun _ _ h=>.inl h,fun b _ _ h e=>⟨h,by rw[hkeep b (hS.maps.fzb h)];exact e⟩⟩
    refine⟨g2,hle2,⟨fun i b h=>?_,hS.inj,fun i b h=>?_,fun b id base h=>?_,hS.asz,fun b hb=>?_,hS.maps.of (fun _ _ h=>h) (fun _ _ _=>rfl) (fun i b h=>hkeep b (hS.maps.lt h)) (fun c u r=>r.mono hle2) (fun i b h=>⟨hpo b (hS.maps.lt h),rfl⟩) (fun _ _ _ _ h=>h),hS.gl.le hle2⟩,VR.freeze (g1:=g1) (g2:=g2) (fun _=>aX _) hr hrf⟩
    ·obtain⟨cs,us',t,k1,k2,k3,k4⟩:=hS.obj i b h;exact⟨cs,us',t,k1,by rw[hkeep b (ir hS i b h)];exact k2,k3,fun j c u e1 e2=>(k4 j c u e1 e2).mono hle2⟩
    ·have k:=hS.objpub i b h;exact⟨fun hl=>by simp only[g2];rw[hpo b (ir hS i b h)];exact k.1 hl,k.2⟩
    ·obtain⟨sz,tip,k1,k2,k3,k4⟩:=hS.arr b id base h
     have hb:b<w.heap.size:=by
      rcases jV b w.heap.size with hb|hb
      ·exact hb
      ·have:=(hS.lt b hb).2;rw[show g.arr b=some (id,base)from h]at this;cases this
     exact⟨sz,tip,k1,k2,k3,by simp only[g2];rw[hpo b hb];exact k4⟩
    ·have k:=hS1.lt b hb;have hb':w.heap.size≤b:=Nat.le_trans hle.size hb;exact⟨k.1,(hS.lt b hb').2⟩
   ·cases h
 ·cases h
theorem zd:∀{l:List PV},PV.scalL l=true→∀v∈l,v.scal=true
 | [],_,v,hv=>by simp at hv
 |a::l,h,v,hv=>by
  simp only[PV.scalL,aJ]at h;rcases cQ.1 hv with rfl|hv
  ·exact h.1
  ·exact zd h.2 v hv
def VR.ofScal{g1 g2:Gh}{w1 w2:World}{c:PV}{u:Value}(r:VR X g1 w1 c u):c.scal=true→VR X g2 w2 c u:=by
 induction r with
 |int k n=>intro _;exact .int k n
 |bool b=>intro _;exact .bool b
 |str s=>intro _;exact .str s
 |nilp=>intro _;exact .nilp
 |nils=>intro _;exact .nils
 |nili=>intro _;exact .nili
 |nilf=>intro _;exact .nilf
 |nilm=>intro _;exact .nilm
 |iface t v u _ ih=>intro h;simp only[PV.scal]at h;exact .iface t v u (ih h)
 |agg cs us hl _ ih=>intro h;simp only[PV.scal]at h;exact .agg cs us hl (fun j c u e1 e2=>ih j c u e1 e2 (zd h c (dY e1)))
 |tup cs us hl _ ih=>intro h;simp only[PV.scal]at h;exact .tup cs us hl (fun j c u e1 e2=>ih j c u e1 e2 (zd h c (dY e1)))
 |_=>intro h;simp[PV.scal]at h
def aBJ{call:af}(hC:cu X call)(hS:SR X g S w){f:Nat}{args:List PV}{r:PV}{us:Array Value}(hV:bQ X g w args us)(h:lD call f args S=some r) :
  nB X (X.fnOf f) us w (fun u w'=>cU X g w S r u w'):=by
 unfold lD at h;split at h
 ·rename_i as hsol;split at h
  ·rename_i r0 S1 hc;split at h
   ·rename_i hsc;cases h;let gp:Gh:={g with pub:=fJ g 0 S};let g0:Gh:=cI (fJ g 0 S)
    have hPl:∀b,w.heap.size≤b→fJ g 0 S b=0:=by
     intro b hb;rw[kZ (fun id _ _ e=>by have:=ir hS id b e;omega)];exact(hS.lt b hb).1
    have hS0:SR X g0 bT w:=uL hPl (RJ hS.gl)
    have hV0:bQ X g0 w (PV.frzL as) us:=by
     obtain⟨q1,q2⟩:=js hsol;rw[fH];refine⟨by rw[bU,←q1];exact hV.1,fun j c u e1 e2=>?_⟩;rw[gB]at e1
     cases hc':as[j]? with
     |none=>rw[hc']at e1;cases e1
     |some c'=>
      rw[hc']at e1;cases e1;have hlt:j<args.length:=by rw[q1];exact(aO.1 hc').1
      have hs:=q2 j args[j] c' (bX hlt) hc';have hr:=hV.2 j args[j] u (bX hlt) e2;have hr2:VR X gp w c' u:=SS (g2:=gp) hS (n0:=0) (fun _ _ h=>h) (fun _ _ h=>h) (ST hS) (SU hS) (eF+1) eF (by omega) hs hr;exact VR.freeze (g1:=gp) (g2:=g0) (fun _=>aX _) hr2 (AJ _ hs)
    intro o a next Q hn
    refine hC f _ bT r S1 hc g0 w us hS0 hV0 o a next Q (fun u w' hst=>hn u w' ?_)
    obtain⟨g1,hle,hS1,hr⟩:=hst;have hkeep:∀b,b<w.heap.size→w'.heap[b]?=w.heap[b]?:=fun b hb=>hle.keep b hb (fun id h=>absurd h (by simp[g0,cI])) rfl (fun id h=>absurd h (by simp[g0,cI]))
    have hpl:∀b j,j<g.pub b→b<w.heap.size:=fun b j hj=>by
     rcases jV b w.heap.size with h1|h1
     ·exact h1
     ·rw[(hS.lt b h1).1]at hj;omega
    have hle2:Le g w g w':=⟨hle.os,hle.tape,hle.output,hle.size,fun _ _ h=>h,fun _ _ h=>h,fun _ _ h=>h,fun _=>aX _,fun b j hj=>by simp only[World.cell?];rw[hkeep b (hpl b j hj)],
     fun b us t fz e=>⟨us,by rw[hkeep b (cD.1 e).1];exact e,rfl⟩,fun id _ h=>.inl ⟨id,h⟩,fun _ _ h=>.inl h,
     fun b hb _ _ _=>hkeep b hb,fun _ _ _ _ _=>rfl,fun _ _ h=>h,fun _ _ h=>.inl h,fun b _ _ h e=>⟨h,by rw[hkeep b (hS.maps.fzb h)];exact e⟩⟩
    refine⟨g,hle2,⟨fun i b h=>?_,hS.inj,hS.objpub,hS.arr,hS.asz,fun b hb=>hS.lt b (Nat.le_trans hle.size hb),hS.maps.of (fun _ _ h=>h) (fun _ _ _=>rfl) (fun i b h=>hkeep b (hS.maps.lt h)) (fun c u r=>r.mono hle2) (fun _ _ _=>⟨rfl,rfl⟩) (fun _ _ _ _ h=>h),hS.gl.le hle2⟩,hr.ofScal hsc⟩;obtain⟨cs,us',t,k1,k2,k3,k4⟩:=hS.obj i b h;exact⟨cs,us',t,k1,by rw[hkeep b (ir hS i b h)];exact k2,k3,fun j c u e1 e2=>(k4 j c u e1 e2).mono hle2⟩
   ·cases h
  ·cases h
 ·cases h
def uM{call:af}(hC:cu X call)(hS:SR X g S w){m:CM}{f:Nat}{args:List PV}{r:PV}{S':St}{us:Array Value}(hV:bQ X g w args us)(h:ck call m f args S=some (r,S')) :
  nB X (X.fnOf f) us w (fun u w'=>cU X g w S' r u w'):=by
 cases m with
 |std=>exact hC f args S r S' h g w us hS hV
 |keep=>exact hC f args S r S' (aBH h) g w us hS hV
 |pur=>
  obtain⟨rfl,h1⟩:=zc h
  exact aBI hC hS hV h1
 |snap=>
  obtain⟨rfl,h1⟩:=zc h;exact aBJ hC hS hV h1
def RK{call:af}(hC:cu X call)(hS:SR X g S w)(hF:FR X n g w fr a){c:Go.Call}{m:CM}{f:Nat}{args:List aG}{v:PV}{S':St}
  (hf:(match c.callee with|.value (.func q)=>X.fnOf f==q|_=>false)=true)(ha:fF X c.args.toList args=true)(h:ck call m f (args.map (ev fr)) S=some (v,S')):dr X g w a (.call c) S' v:=by
 intro dst ty pos after guard next Q hn
 obtain⟨callee,cargs,tys⟩:=c;simp only at hf ha;split at hf
 ·simp only[beq_iff_eq]at hf;subst hf;have:=uM hC hS (oc hF ha) h (Oper.mk dst (.call ⟨.value (.func (X.fnOf f)),cargs,tys⟩) ty pos after guard) a next Q hn
  unfold Oper.wp
  have e:execOp a.eval ⟨dst,.call ⟨.value (.func (X.fnOf f)),cargs,tys⟩,ty,pos,after,guard⟩=callFunc (X.fnOf f) (cargs.map a.eval):=by
   simp[execOp,resolve,Act.eval,Deferred.ofValue,invoke]
  rw[e];exact this
 ·cases hf
def aBK{call:af}(hC:cu X call)(hS:SR X g S w)(hF:FR X n g w fr a){c:Go.Call}{m:CM}{x:aG}{args:List aG}{v:PV}{S':St}{f:Nat}{caps:List PV}
  (hf:(match c.callee with|.value y=>aK X y x|_=>false)=true)(ha:fF X c.args.toList args=true)(hx:ev fr x=.fn f caps)
  (h:ck call m f (args.map (ev fr)++caps) S=some (v,S')):dr X g w a (.call c) S' v:=by
 intro dst ty pos after guard next Q hn
 obtain⟨callee,cargs,tys⟩:=c;simp only at hf ha;split at hf
 ·rename_i y;have r:=ax hF hf;rw[hx]at r;generalize hu:a.eval y=u at r
  cases r with
  |fn _ _ us hl hv=>
   have:=uM hC hS (rN (oc hF ha) ⟨hl,hv⟩) h (Oper.mk dst (.call ⟨.value y,cargs,tys⟩) ty pos after guard) a next Q hn
   unfold Oper.wp
   have e:execOp a.eval ⟨dst,.call ⟨.value y,cargs,tys⟩,ty,pos,after,guard⟩=callFunc (X.fnOf f) (cargs.map a.eval++us):=by
    simp[execOp,resolve,hu,Deferred.ofValue,invoke]
   rw[e];exact this
 ·cases hf
def aBL{call:af}(hC:cu X call)(hS:SR X g S w)(hF:FR X n g w fr a){c:Go.Call}{m:CM}{x:aG}{args:List aG}{v:PV}{S':St}{f:Nat}{first:List PV}
  (hf:(match c.callee with|.value y=>aK X y x|_=>false)=true)(ha:fF X c.args.toList args=true)(hx:ev fr x=.bfn f first)
  (h:ck call m f (first++args.map (ev fr)) S=some (v,S')):dr X g w a (.call c) S' v:=by
 intro dst ty pos after guard next Q hn
 obtain⟨callee,cargs,tys⟩:=c;simp only at hf ha;split at hf
 ·rename_i y;have r:=ax hF hf;rw[hx]at r;generalize hu:a.eval y=u at r
  cases r with
  |bfn _ _ us hl hv=>
   have:=uM hC hS (rN ⟨hl,hv⟩ (oc hF ha)) h (Oper.mk dst (.call ⟨.value y,cargs,tys⟩) ty pos after guard) a next Q hn
   unfold Oper.wp
   have e:execOp a.eval ⟨dst,.call ⟨.value y,cargs,tys⟩,ty,pos,after,guard⟩=callFunc (X.fnOf f) (us++cargs.map a.eval):=by
    simp[execOp,resolve,hu,Deferred.ofValue,invoke]
   rw[e];exact this
 ·cases hf
def aBM{call:af}(hM:eZ X)(hC:cu X call)(hS:SR X g S w)(hF:FR X n g w fr a){c:Go.Call}{cm:CM}{m:Nat}{x:aG}{args:List aG}{v v0:PV}{S':St}{f t:Nat}
  (hf:(match c.callee with|.invoke y name=>X.mn m==name&&aK X y x|_=>false)=true)(ha:fF X c.args.toList args=true)(hx:ev fr x=.iface t v0)(hm:X.T.meth t m=some f)
  (h:ck call cm f (v0::args.map (ev fr)) S=some (v,S')):dr X g w a (.call c) S' v:=by
 intro dst ty pos after guard next Q hn
 obtain⟨callee,cargs,tys⟩:=c;simp only at hf ha;split at hf
 ·rename_i y name;simp only[aJ,beq_iff_eq]at hf;obtain⟨rfl,hf⟩:=hf;have r:=ax hF hf;rw[hx]at r;generalize hu:a.eval y=u at r
  cases r with
  |iface _ _ u0 hv=>
   have:=uM hC hS (aBG hv (oc hF ha)) h (Oper.mk dst (.call ⟨.invoke y (X.mn m),cargs,tys⟩) ty pos after guard) a next Q hn
   unfold Oper.wp
   have e:(execOp a.eval ⟨dst,.call ⟨.invoke y (X.mn m),cargs,tys⟩,ty,pos,after,guard⟩).run X.P w=(callFunc (X.fnOf f) (#[u0]++cargs.map a.eval)).run X.P w:=by
    have hex:(#[Value.iface (X.ty t) u0]++cargs.map a.eval).extract 1 (#[Value.iface (X.ty t) u0]++cargs.map a.eval).size=cargs.map a.eval:=by
     apply Array.ext';simp[jz]
    have h0:(#[Value.iface (X.ty t) u0]++cargs.map a.eval)[0]?=some (.iface (X.ty t) u0):=by
     rw[iR (by simp)];rfl
    simp only[execOp,resolve,hu,Sem.run_bind,Sem.run_pure,Result.andThen_ok,invoke,h0,hex,callMethod,run_program,hM t m f hm]
   rw[e];exact this
 ·cases hf
def RL(hS:SR X g S w)(hF:FR X n g w fr a){ag:Bool}{m:Nat}{x:aG}{x':Operand}{t:TypeId}{id off:Nat}{cs:List PV}(ht:iH X.P t ag m=true)(hx:aK X x' x=true)
  (he:ev fr x=.ptr id off)(hcs:S.objs[id]?=some cs){v:PV}(hv:az ag m (cs.drop off)=some v):cH X g w a (.load t x') v:=by
 intro dst ty pos after guard;have r:=ax hF hx;rw[he]at r;generalize hu:a.eval x'=u at r
 cases r with
 |ptr _ _ b hb=>
  have hc:=(mz hS hb hcs).drop off;rw[cy]at hc;obtain⟨u,h4,h5⟩:=uG ht hv hc;exact⟨u,by simp[execOp,hu,Instr.loadAt,Instr.sureAddr,h4],h5⟩
def RM(hS:SR X g S w)(hF:FR X n g w fr a){m:Nat}{p x:aG}{p' x':Operand}{t:TypeId}{id off:Nat}{cs:List PV}
  (ht:(match X.P.info? t with|some i=>i.size==m|none=>false)=true)(hp:aK X p' p=true)(hx:aK X x' x=true)(he:ev fr p=.ptr id off)(hcs:S.objs[id]?=some cs)
  (hm:(ev fr x).cells.length=m)(hoff:off+m≤cs.length)(hone:(ev fr x).cells.all PV.one=true) :
  dr X g w a (.store t p' x') {S with objs:=S.objs.set id (bK cs off (ev fr x).cells)} .und:=by
 intro dst ty pos after guard next Q hn
 have r:=ax hF hp;rw[he]at r;have rx:=ax hF hx;generalize hu:a.eval p'=u at r
 cases r with
 |ptr _ _ b hb=>
  have hsz:(Go.sizeOf t).run X.P w=.ok m w:=by
   split at ht
   ·rename_i i hi;simp only[beq_iff_eq]at ht;simp[Go.sizeOf,typeInfo,hi,ht]
   ·cases ht
  obtain⟨w',h1,h2⟩:=aBE hS hb hcs rx hone hm hoff hsz;unfold Oper.wp
  have e:(execOp a.eval ⟨dst,.store t p' x',ty,pos,after,guard⟩).run X.P w=.ok .skip w':=by
   simp only[execOp,Sem.run_bind,hu,h1,Result.andThen_ok,Sem.run_pure]
  rw[e];exact hn undef w' h2
def aBN(hS:SR X g S w)(hF:FR X n g w fr a){ro:Bool}{x:aG}{x':Operand}{t:TypeId}(hx:aK X x' x=true)(hone:(ev fr x).cells.all PV.one=true){v:PV}{S':St}
  (h:(if ro then(PV.ref (ev fr x).cells,S)else cj S (ev fr x).cells)=(v,S')):dr X g w a (.box t x') S' v:=by
 intro dst ty pos after guard next Q hn
 have r:=nA (ax hF hx) hone;unfold Oper.wp
 have e:(execOp a.eval ⟨dst,.box t x',ty,pos,after,guard⟩).run X.P w=.ok (.value (.pointer (some ⟨w.heap.size,0,none⟩))) (w.alloc (.cells (a.eval x').cells t)):=by
  simp[execOp,Instr.box,newVar,newRow]
 rw[e];refine hn _ _ ?_;cases ro
 ·simp only[bp,if_false]at h;have:=RC hS r t;rw[h]at this;exact this
 ·simp only[if_true]at h;cases h;exact zZ hS r t
def zf{P:Program}{t:TypeId}{z:List PV}(h:jf P t z=true):∃u,(zeroValue t).run P w=.ok u w∧jd u.cells.toList z=true:=by
 unfold jf at h;split at h
 ·rename_i i hi;split at h
  ·rename_i u hu;exact⟨u,by simp[zeroValue,typeInfo,hi,hu],h⟩
  ·cases h
 ·cases h
def aBO(hS:SR X g S w){ro:Bool}{z:List PV}{t:TypeId}(hz:jf X.P t z=true){v:PV}{S':St}
  (h:(if ro then(PV.ref z,S)else cj S z)=(v,S')):dr X g w a (.alloc t) S' v:=by
 intro dst ty pos after guard next Q hn
 obtain⟨u,h1,h2⟩:=zf (w:=w) hz;have r0:=mt (X:=X) (g:=g) (w:=w) h2;have r:bQ X g w z u.cells:=⟨by simpa using r0.1,fun j c x e1 e2=>r0.2 j c x e1 (by simpa using e2)⟩;unfold Oper.wp
 have e:(execOp a.eval ⟨dst,.alloc t,ty,pos,after,guard⟩).run X.P w=.ok (.value (.pointer (some ⟨w.heap.size,0,none⟩))) (w.alloc (.cells u.cells t)):=by
  simp[execOp,Instr.alloc,newVar,newRow,h1]
 rw[e];refine hn _ _ ?_;cases ro
 ·simp only[bp,if_false]at h;have:=RC hS r t;rw[h]at this;exact this
 ·simp only[if_true]at h;cases h;exact zZ hS r t
def aBP(hS:SR X g S w)(hF:FR X n g w fr a){ro:Bool}{v:PV}{S':St}{x:aG}{x':Operand}{s d:TypeId}{str:List UInt8}(hs:(X.P.underlying s).isSome=true)
  (hd:(match X.P.underlying d with|some (.slice e)=>gi X.P e .u8|_=>false)=true)(hx:aK X x' x=true)(he:ev fr x=.str str)
  (h:(if ro then(PV.sl none (aI str) [],S)else dQ S 1 (aI str))=(v,S')):dr X g w a (.convert s d x') S' v:=by
 intro dst ty pos after guard next Q hn
 have r:=ax hF hx;rw[he]at r;generalize hu:a.eval x'=u at r;cases r;split at hd
 ·rename_i e hue;have hu8:=rI hd;obtain⟨ds,hds⟩:=pR.1 hs;have hsize:(ByteArray.mk str.toArray).size=str.length:=by simp[ByteArray.size]
  obtain⟨cap,hcap⟩:∃cap,cap=(Question.appendCap str.length 0 e).cut (w.tape w.drawn (.appendCap str.length 0 e)):=⟨_,rfl⟩
  have hge:str.length≤cap:=by
   rw[hcap];simp only[Question.cut];omega
  let us:Array Value:=(str.map fun b=>Value.int .u8 b.toNat).toArray++Array.replicate (cap-str.length) (.int .u8 0);have hus:us.size=cap:=by simp[us];omega
  have hrun:(execOp a.eval ⟨dst,.convert s d x',ty,pos,after,guard⟩).run X.P w =
    .ok (.value (.slice (some ⟨w.heap.size,0,none⟩) str.length cap)) ((w.drew.alloc (.cells us e)).freeze ⟨w.heap.size,cap,none⟩ 1):=by
   have hsh:(w.drew.alloc (.cells us e)).shape? w.heap.size=some (e,us.size):=by
    simp only[World.shape?,RI,dH,if_pos]
   simp only[execOp,Sem.run_bind,hu,convert,run_underlying hds,run_underlying hue,run_underlying hu8,Result.andThen_ok,Conv.stringToBytes,run_choose,Question.forced,hsize,bp,if_false,←hcap,newRow,run_newObj,Sem.run_pure];have e1:((str.toArray.map fun b=>Value.int .u8 b.toNat)++Array.replicate (cap-str.length) (Value.int .u8 0))=us:=by simp[us]
   simp only[e1];have e2:({heap:=w.heap.push (.cells us e),tape:=w.tape,drawn:=w.drawn+1,os:=w.os,output:=w.output}:World)=w.drew.alloc (.cells us e):=rfl;rw[e2];simp only[markStringish,Sem.run_bind,run_shape,Result.andThen_ok];rw[hsh];simp[hus]
  unfold Oper.wp;rw[hrun];refine hn _ _ ?_
  have hheap:((w.drew.alloc (.cells us e)).freeze ⟨w.heap.size,cap,none⟩ 1).heap=w.heap.push (.cells us e (cap,cap+1)):=by
   simp only[World.freeze,RI];simp only[Nat.one_ne_zero,if_false];apply Array.ext_getElem?;intro k;rw[lw,dH,dH];by_cases hk:k=w.heap.size
   ·subst hk;simp
   ·rw[if_neg (Ne.symm hk),if_neg hk,if_neg hk]
  have hone:∀x∈aI str,x.cells=[x]∧x.one=true:=by
   intro x hx;simp only[aI,List.mem_map]at hx;obtain⟨b,_,rfl⟩:=hx;exact⟨rfl,rfl⟩
  have hcells:∀(j:Nat) (c:PV),((aI str).flatMap PV.cells)[j]?=some c→∃u,us[j]?=some u∧VR X g w c u:=by
   intro j c hc;rw[zO (fun x hx=>(hone x hx).1)]at hc;simp only[aI,gB]at hc
   cases hj:str[j]? with
   |none=>rw[hj]at hc;cases hc
   |some b=>
    rw[hj]at hc;cases hc;have hjl:=(aO.1 hj).1;refine⟨_,?_,.int _ _⟩;simp only[us];rw[iR (by simpa using hjl)];simp[hj]
  have e1:((w.drew.alloc (.cells us e)).freeze ⟨w.heap.size,cap,none⟩ 1).os=w.os:=by simp[World.freeze];rfl
  have e2:((w.drew.alloc (.cells us e)).freeze ⟨w.heap.size,cap,none⟩ 1).tape=w.tape:=by simp[World.freeze]
  have e3:((w.drew.alloc (.cells us e)).freeze ⟨w.heap.size,cap,none⟩ 1).output=w.output:=by simp[World.freeze];rfl
  cases ro
  ·simp only[bp,if_false]at h
   have hst:=oa hS (es:=aI str) (us:=us) (t:=e) (lo:=cap) (hi:=cap+1) (sz:=1) (cap:=cap)
    (w':=(w.drew.alloc (.cells us e)).freeze ⟨w.heap.size,cap,none⟩ 1) hheap e1 e2 e3 (by omega)
    (fun x hx=>by rw[(hone x hx).1];rfl) (fun x hx=>by rw[(hone x hx).1];simp[(hone x hx).2]) (by simpa[aI]using hge) (by omega) (.inr (by omega)) hcells
   rw[h]at hst;simpa[aI]using hst
  ·simp only[if_true]at h;cases h
   have hst:=RE hS (es:=aI str) (us:=us) (t:=e) (lo:=cap) (hi:=cap+1) (sz:=1) (cap:=cap)
    (w':=(w.drew.alloc (.cells us e)).freeze ⟨w.heap.size,cap,none⟩ 1) hheap e1 e2 e3 (by omega)
    (fun x hx=>by rw[(hone x hx).1];rfl) (fun x hx=>by rw[(hone x hx).1];simp[(hone x hx).2]) (by simpa[aI]using hge) (by omega) hcells
   simpa[aI]using hst
 ·cases hd
end
end Ps
