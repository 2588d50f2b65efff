/- New objects that will not turn any more are told by what they hold. -/
import Derived.Test.YtpjmpaidcidjgaaGreatDoorAbbKt
import Derived.Test.YtpjmpaidcidjgaaGreatDoorSimObKt
set_option linter.defProp false
namespace Ps
open Go
theorem jP{f:PV→Option PV}:∀{l m:List PV},cD f l=some m→l.length=m.length∧∀(j:Nat) (c d:PV),l[j]?=some c→m[j]?=some d→f c=some d
 | [],m,h=>by cases h;exact⟨rfl,fun j c d h=>by simp at h⟩
 |a::l,m,h=>by
  simp only[cD]at h;split at h
  ·rename_i b hb;split at h
   ·rename_i m' hm;cases h;obtain⟨h1,h2⟩:=jP hm;refine⟨by simp[h1],fun j c d hc hd=>?_⟩
    cases j with
    |zero=>simp at hc hd;subst hc;subst hd;exact hb
    |succ j=>exact h2 j c d (by simpa using hc) (by simpa using hd)
   ·cases h
  ·cases h
theorem jQ:∀{l:List PV},(∀v∈l,v.free=true)→PV.freeL l=true
 | [],_=>rfl
 |a::l,h=>by simp only[PV.freeL,aI];exact⟨h a (by simp),jQ fun v hv=>h v (by simp[hv])⟩
def lJ{f:PV→Option PV}{l m:List PV}(h:cD f l=some m)(hf:∀c d,f c=some d→d.free=true):PV.freeL m=true:=by
 obtain⟨h1,h2⟩:=jP h;apply jQ;intro v hv;obtain⟨j,hj⟩:=fm hv;have hlt:j<l.length:=by rw[h1];exact(aL.1 hj).1
 exact hf _ _ (h2 j l[j] v (bK hlt) hj)
theorem PW{sz:Nat}:∀(n:Nat) (cs:List PV),PV.freeL cs=true→PV.freeL (dA sz n cs)=true
 |0,_,_=>rfl
 |n+1,cs,h=>by
  have hm:=di h;have h1:PV.freeL (cs.take sz)=true:=jQ fun v hv=>hm v (jV hv);have h2:PV.freeL (cs.drop sz)=true:=jQ fun v hv=>hm v (fo hv);simp only[dA,PV.freeL,aI];refine⟨?_,PW n _ h2⟩;unfold nM;split
  ·rename_i c hc;rw[hc]at h1;simp only[PV.freeL,aI]at h1;split
   ·exact h1.1
   ·simp[PV.free,PV.freeL,h1.1]
  ·exact h1
theorem yh{objs:List (List PV)}{n0:Nat}:∀(k:Nat) {v d:PV},aj objs n0 k v=some d→d.free=true
 |0,v,d,h=>by simp[aj]at h
 |k+1,v,d,h=>by
  have ih:∀c d,aj objs n0 k c=some d→d.free=true:=fun c d h=>yh k h;unfold aj at h;split at h
  ·rename_i hf;cases h;exact hf
  ·cases v<;>simp only at h<;>try (cases h;done)
   case ptr id off=>
    split at h
    ·split at h
     ·split at h
      ·split at h
       ·rename_i hm;cases h;simp only[PV.free];exact lJ hm ih
       ·cases h
      ·cases h
     ·cases h
    ·cases h
   case ref cs=>
    split at h
    ·rename_i hm;cases h;simp only[PV.free];exact lJ hm ih
    ·cases h
   case iface t v=>
    split at h
    ·rename_i hm;cases h;simp only[PV.free];exact ih _ _ hm
    ·cases h
   case agg cs=>
    split at h
    ·rename_i hm;cases h;simp only[PV.free];exact lJ hm ih
    ·cases h
   case tup cs=>
    split at h
    ·rename_i hm;cases h;simp only[PV.free];exact lJ hm ih
    ·cases h
   case fn f cs=>
    split at h
    ·rename_i hm;cases h;simp only[PV.free];exact lJ hm ih
    ·cases h
   case sl tip es sp=>
    split at h
    ·rename_i h1 h2;cases h;simp only[PV.free,aI];exact⟨lJ h1 ih,lJ h2 ih⟩
    ·cases h
   case emp=>cases h;rfl
   case osl id off len sz=>
    split at h
    ·split at h
     ·split at h
      ·split at h
       ·rename_i hm;cases h;simp only[PV.free,aI];exact⟨PW _ _ (lJ hm ih),rfl⟩
       ·cases h
      ·cases h
     ·cases h
    ·cases h
def iD(objs:List (List PV))(n0 K:Nat)(cs ds:List PV):Prop:=
 cs.length=ds.length∧∀(j:Nat) (c d:PV),cs[j]?=some c→ds[j]?=some d→∃k,k<K∧aj objs n0 k c=some d
def PX{objs:List (List PV)}{n0 k:Nat}{cs ds:List PV}(h:cD (aj objs n0 k) cs=some ds):iD objs n0 (k+1) cs ds:=
 ⟨(jP h).1,fun j c d h1 h2=>⟨k,by omega,(jP h).2 j c d h1 h2⟩⟩
def iD.append{objs:List (List PV)}{n0 K:Nat}{a b c d:List PV}(h:iD objs n0 K a b)(k:iD objs n0 K c d):iD objs n0 K (a++c) (b++d):=by
 refine⟨by simp[h.1,k.1],fun j x y e1 e2=>?_⟩;by_cases hj:j<a.length
 ·rw[aw hj]at e1;rw[aw (by rw[←h.1];exact hj)]at e2;exact h.2 j x y e1 e2
 ·rw[eH (by omega)]at e1;rw[eH (by rw[←h.1];omega),←h.1]at e2;exact k.2 _ x y e1 e2
def oG{objs:List (List PV)}{n0 k:Nat}{v:PV}(h:v.free=true):aj objs n0 (k+1) v=some v:=by
 unfold aj;rw[if_pos h]
def PY{objs:List (List PV)}{n0 k:Nat}{c d:PV}(hs:aj objs n0 k c=some d)(ho:c.one=true):d.one=true:=by
 cases k with
 |zero=>simp[aj]at hs
 |succ k=>
  unfold aj at hs;split at hs
  ·cases hs;exact ho
  ·cases c<;>simp only at hs<;>(first|(cases hs;done)|(simp[PV.one]at ho;done)|skip)
   all_goals
    repeat (first|(cases hs;done)|split at hs)
    all_goals first|(cases hs;done)|(cases hs;rfl)
def yi{objs:List (List PV)}{n0 k:Nat}{v d:PV}(h:aj objs n0 k v=some d):iD objs n0 (k+1) v.cells d.cells∧(v.cells.all PV.one=true→d.cells.all PV.one=true):=by
 cases k with
 |zero=>simp[aj]at h
 |succ k=>
  have h0:=h;unfold aj at h;split at h
  ·rename_i hf;cases h;refine⟨⟨rfl,fun j c d h1 h2=>?_⟩,id⟩;rw[h1]at h2;cases h2;exact⟨k+1,by omega,oG (xy hf c (ct h1))⟩
  ·have one:∀{v d:PV},aj objs n0 (k+1) v=some d→iD objs n0 (k+2) [v] [d]:=fun h=>⟨rfl,fun j c e h1 h2=>by
    cases j with
    |zero=>simp at h1 h2;subst h1;subst h2;exact⟨k+1,by omega,h⟩
    |succ j=>simp at h1⟩
   cases v<;>simp only at h<;>try (cases h;done)
   case agg cs hnf=>
    split at h
    ·rename_i ds hm;cases h;obtain⟨q1,q2⟩:=jP hm;refine⟨⟨q1,fun j c d e1 e2=>⟨k,by omega,q2 j c d e1 e2⟩⟩,fun ho=>?_⟩;simp only[PV.cells]at ho ⊢;rw[List.all_eq_true]at ho ⊢;intro x hx;obtain⟨j,hj⟩:=fm hx;have hlt:j<cs.length:=by rw[q1];exact(aL.1 hj).1
     exact PY (q2 j cs[j] x (bK hlt) hj) (ho _ (by simp))
    ·cases h
   all_goals
    repeat (first|(cases h;done)|split at h)
    all_goals first
     |(cases h;done)
     |(cases h;exact⟨one h0,fun _=>rfl⟩)
     |(cases h;exact⟨one h0,fun ho=>by simp[PV.cells,PV.one]at ho⟩)
theorem PZ{objs:List (List PV)}{n0 K:Nat}:∀{es ds:List PV},iD objs n0 K es ds→iD objs n0 K (es.flatMap PV.cells) (ds.flatMap PV.cells)
 | [],[],_=>⟨rfl,fun j c d h=>by simp at h⟩
 | [],_::_,h=>absurd h.1 (by simp)
 |_::_,[],h=>absurd h.1 (by simp)
 |e::es,d::ds,h=>by
  simp only[dB];obtain⟨k,hk,hs⟩:=h.2 0 e d rfl rfl;have h1:=(yi hs).1;refine iD.append ⟨h1.1,fun j c x e1 e2=>?_⟩ (PZ ⟨by simpa using h.1,fun j c x e1 e2=>h.2 (j+1) c x (by simpa using e1) (by simpa using e2)⟩);obtain⟨k',hk',hs'⟩:=h1.2 j c x e1 e2;exact⟨k',by omega,hs'⟩
def iD.elem{objs:List (List PV)}{n0 K:Nat}{es ds:List PV}(h:iD objs n0 K es ds){d:PV}(hd:d∈ds):∃e∈es,∃k,k<K∧aj objs n0 k e=some d:=by
 obtain⟨j,hj⟩:=fm hd;have hlt:j<es.length:=by rw[h.1];exact(aL.1 hj).1
 exact⟨es[j],by simp,h.2 j es[j] d (bK hlt) hj⟩
section
variable {X : Tie} {g1 g2 : Gh} {w1 : World} {S1 : St}
def Pa(hS1:SR X g1 S1 w1){n0:Nat}(h2:∀b x,g1.arr b=some x→g2.arr b=some x)(h3:∀id sz,g1.asz id=some sz→g2.asz id=some sz)(h4:∀b,g1.pub b≤g2.pub b)
  (hp:∀id b,n0≤id→g1.obj id=some b→∀cs,S1.objs[id]?=some cs→cs.length≤g2.pub b) :
  ∀(K k:Nat),k<K→∀{v d:PV} {u:Value},aj S1.objs n0 k v=some d→VR X g1 w1 v u→VR X g2 w1 d u:=by
 intro K
 induction K with
 |zero=>intro k hk;omega
 |succ K ih=>
  intro k hk v d u h r
  cases k with
  |zero=>simp[aj]at h
  |succ k=>
   unfold aj at h;split at h
   ·rename_i hf;cases h;exact r.ofFree h2 h3 h4 hf
   ·have ihk:∀{v d:PV} {u:Value},aj S1.objs n0 k v=some d→VR X g1 w1 v u→VR X g2 w1 d u:=fun h r=>ih k (by omega) h r
    have lst:∀{cs ds:List PV} {us:Array Value},cD (aj S1.objs n0 k) cs=some ds→cs.length=us.size→(∀(j:Nat) (c:PV) (u:Value),cs[j]?=some c→us[j]?=some u→VR X g1 w1 c u) →
      ds.length=us.size∧∀(j:Nat) (c:PV) (u:Value),ds[j]?=some c→us[j]?=some u→VR X g2 w1 c u:=by
     intro cs ds us hm hl hv;obtain⟨q1,q2⟩:=jP hm;refine⟨by omega,fun j c u e1 e2=>?_⟩;have hlt:j<cs.length:=by rw[q1];exact(aL.1 e1).1
     exact ihk (q2 j cs[j] c (bK hlt) e1) (hv j cs[j] u (bK hlt) e2)
    cases r with
    |ptr id off b hb=>
     simp only at h;split at h
     ·rename_i hn0;split at h
      ·rename_i cs hcs;split at h
       ·rename_i hoff;split at h
        ·rename_i ds hm;cases h;obtain⟨q1,q2⟩:=jP hm;obtain⟨us,hus⟩:=(mN hS1 hb hcs).drop off;rw[cd]at hus;have hlen:ds.length=cs.length-off:=by rw[←q1];simp
         refine .ref ds b off us (by have:=hp id b hn0 hb cs hcs;omega) (fun j hj=>?_) (fun j c hc=>?_)
         ·have hlt:j<(cs.drop off).length:=by rw[q1];exact hj
          exact(hus j _ (bK hlt)).1
         ·have hlt:j<(cs.drop off).length:=by rw[q1];exact(aL.1 hc).1
          exact ihk (q2 j _ c (bK hlt) hc) (hus j _ (bK hlt)).2
        ·cases h
       ·cases h
      ·cases h
     ·cases h
    |ref cs b o us hpub hc hv=>
     simp only at h;split at h
     ·rename_i ds hm;cases h;obtain⟨q1,q2⟩:=jP hm;refine .ref ds b o us (by have:=h4 b;omega) (fun j hj=>hc j (by omega)) (fun j c hc'=>?_);have hlt:j<cs.length:=by rw[q1];exact(aL.1 hc').1
      exact ihk (q2 j _ c (bK hlt) hc') (hv j _ (bK hlt))
     ·cases h
    |slz aa=>
     simp only[cD]at h;cases h
     exact .slz aa
    |sl tip es sp b o cap sz us hcap hpos hsz hpub hc hv hlink hone=>
     simp only at h;split at h
     ·rename_i a c ha hc';cases h;have s1:=PX ha;have s2:=PX hc';have s:=s1.append s2;have sf:=PZ s;have l1:=s1.1;have l2:=s2.1
      have:=VR.sl (X:=X) (g:=g2) (w:=w1) tip a c b o cap sz us (by omega) hpos
       (fun e he=>by
        obtain⟨e',he',k',_,hs'⟩:=s.elem he;rw[←(yi hs').1.1,hsz e' he'])
       (by have:=h4 b;rw[←l1,←l2];omega) (fun j hj=>hc j (by rw[l1,l2];exact hj))
       (fun j x hx=>by
        have hlt:j<((es++sp).flatMap PV.cells).length:=by rw[sf.1];exact(aL.1 hx).1
        obtain⟨k',hk',hs'⟩:=sf.2 j _ x (bK hlt) hx;exact ih k' (by omega) hs' (hv j _ (bK hlt)))
       (fun id e ht hs=>by
        subst hs;have:sp=[]:=fW.1 (by simpa using l2);obtain⟨k1,k2,k3⟩:=hlink id e ht this;refine⟨by omega,h3 _ _ k2,?_⟩;rcases k3 with k3|⟨base,k4,k5,k6⟩
        ·exact .inl ⟨by have:=k3.1;omega,k3.2.imp (fun q=>fW.1 (by rw[←l1,q];rfl)) (fun q=>by omega)⟩
        ·exact .inr ⟨base,h2 _ _ k4,by rw[←l1];exact k5,k6⟩)
       (fun e he=>by
        obtain⟨e',he',k',_,hs'⟩:=s.elem he;exact(yi hs').2 (hone e' he'))
      rw[l1];exact this
     ·cases h
    |emp a=>simp only at h;cases h;exact .slz a
    |osl id off len sz cap b hb hl hr=>
     simp only at h;split at h
     ·rename_i hn0;split at h
      ·rename_i cs hcs;split at h
       ·rename_i hoff;split at h
        ·rename_i ds hm;cases h;obtain⟨q1,q2⟩:=jP hm;obtain⟨us,hus⟩:=(mN hS1 hb hcs).drop off;rw[cd]at hus;have hlen:ds.length=len*sz:=by rw[←q1];simp;omega
         have hone:ds.all PV.one=true:=by
          rw[List.all_eq_true];intro x hx;obtain⟨j,hj⟩:=fm hx;have hlt:j<((cs.drop off).take (len*sz)).length:=by rw[q1];exact(aL.1 hj).1
          have hmem:=(List.all_eq_true.1 hoff.2) _ (fK hlt);exact PY (q2 j _ x (bK hlt) hj) hmem
         have htk:ds.take (len*sz)=ds:=by rw[←hlen];exact il
         have hfl:=yD (sz:=sz) len ds (by omega) (by rw[htk];exact hone);rw[htk]at hfl;have hmm:=sR (sz:=sz) len ds (by omega) (by rw[htk];exact hone)
         have:=VR.sl (X:=X) (g:=g2) (w:=w1) none (dA sz len ds) [] b off cap sz us (by rw[lC];simpa using hl) hn0.2
          (fun e he=>by rw[dn]at he;exact(hmm e he).1)
          (by rw[lC];have:=hp id b hn0.1 hb cs hcs;simp;omega)
          (fun j hj=>by
           rw[lC]at hj;have hj':j<(cs.drop off).length:=by simp at hj ⊢;omega
           exact(hus j _ (bK hj')).1)
          (fun j c hc=>by
           rw[dn,hfl]at hc;have hjl:j<ds.length:=(aL.1 hc).1;have hlt:j<((cs.drop off).take (len*sz)).length:=by rw[q1];exact hjl
           have e1:((cs.drop off).take (len*sz))[j]?=some ((cs.drop off).take (len*sz))[j]:=bK hlt;refine ihk (q2 j _ c e1 hc) ?_;rw[cT (by omega)]at e1;exact(hus j _ e1).2)
          (fun id e ht _=>by cases ht) (fun e he=>by rw[dn]at he;exact(hmm e he).2)
         rw[lC]at this;exact this
        ·cases h
       ·cases h
      ·cases h
     ·cases h
    |iface t v u hv=>
     simp only at h;split at h
     ·rename_i hm;cases h;exact .iface t _ u (ihk hm hv)
     ·cases h
    |agg cs us hl hv=>
     simp only at h;split at h
     ·rename_i hm;cases h;obtain⟨q1,q2⟩:=lst hm hl hv;exact .agg _ us q1 q2
     ·cases h
    |tup cs us hl hv=>
     simp only at h;split at h
     ·rename_i hm;cases h;obtain⟨q1,q2⟩:=lst hm hl hv;exact .tup _ us q1 q2
     ·cases h
    |fn f cs us hl hv=>
     simp only at h;split at h
     ·rename_i hm;cases h;obtain⟨q1,q2⟩:=lst hm hl hv;exact .fn f _ us q1 q2
     ·cases h
    |_=>simp only at h;cases h
end
open Classical in
noncomputable def eR (g1:Gh)(n0:Nat)(S1:St)(b:Nat):Nat:=
 if h:∃id,n0≤id∧g1.obj id=some b∧bt S1 id then((S1.objs[Classical.choose h]?).getD []).length else g1.pub b
section
variable {X : Tie} {g1 : Gh} {w1 : World} {S1 : St} {n0 : Nat}
def kF{b:Nat}(h:∀id,n0≤id→bt S1 id→g1.obj id≠some b):eR g1 n0 S1 b=g1.pub b:=by
 unfold eR;rw[dif_neg];rintro⟨id,h1,h2,h3⟩;exact h id h1 h3 h2
def Pb(hS1:SR X g1 S1 w1)(b:Nat):g1.pub b≤eR g1 n0 S1 b:=by
 unfold eR;split
 ·rename_i h;obtain⟨id,h1,h2,h3⟩:=h;rw[(hS1.objpub id b h2).1 h3];exact bh _
 ·exact aR _
def Pc(hS1:SR X g1 S1 w1)(id b:Nat)(hn:n0≤id)(hb:g1.obj id=some b)(cs:List PV)(hcs:S1.objs[id]?=some cs):cs.length≤eR g1 n0 S1 b:=by
 cases cs with
 |nil=>exact bh _
 |cons c l=>
 have hlv:bt S1 id:=⟨c,l,hcs⟩;unfold eR;have h:∃id,n0≤id∧g1.obj id=some b∧bt S1 id:=⟨id,hn,hb,hlv⟩;rw[dif_pos h];obtain⟨_,c1,c2⟩:=Classical.choose_spec h;have e1:=hS1.inj _ _ _ c1 hb hlv;have e2:=hS1.inj _ _ _ hb c1 c2;have:Classical.choose h=id:=by omega
 rw[this,hcs];exact aR _
end
end Ps
