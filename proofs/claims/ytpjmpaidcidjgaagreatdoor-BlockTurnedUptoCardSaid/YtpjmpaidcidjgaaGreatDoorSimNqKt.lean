/- A region that draws its order, told in another order than the text's. -/
import Derived.Test.YtpjmpaidcidjgaaGreatDoorAbbKt
import Derived.Test.YtpjmpaidcidjgaaGreatDoorSimMKt
set_option linter.defProp false
namespace Ps
open Go
def gX(o:Oper):List Nat:=(o.after.toList.filter (Region.binds .any)).map (·.on)
def qB(acc:List Nat):List Nat→Nat
 | []=>0
 |d::l=>(2^d ||| acc.getD d 0) ||| qB acc l
def dY:List Oper→List Nat→List Nat
 | [],acc=>acc
 |o::l,acc=>dY l (acc++[qB acc (gX o)])
def fF:List Oper→Nat→Bool
 | [],_=>true
 |o::l,i=>(gX o).all (fun d=>decide (d<i))&&fF l (i+1)
def qC(q:aA)(m:Nat):Nat→List aA→Bool
 |_,[]=>true
 |j,p::l=>(m.testBit j||fE p q)&&qC q m (j+1) l
def nr:List aA→List aA→List Nat→Bool
 |done,q::todo,m::ms=>qC q m 0 done&&nr (done++[q]) todo ms
 |_,[],[]=>true
 |_,_,_=>false
def qD(ops:List Oper)(pl:List aA):Bool:=fF ops 0&&nr [] pl (dY ops [])
inductive nu(ops:List Oper):Nat→Nat→Prop where
 |one (i j:Nat) (o:Oper) (h:ops[i]?=some o) (hj:j∈gX o):nu ops j i
 |more (i j d:Nat) (o:Oper) (h:ops[i]?=some o) (hd:d∈gX o) (hr:nu ops j d):nu ops j i
theorem Ov{acc:List Nat}{j:Nat}:∀{ds:List Nat},(qB acc ds).testBit j=true→j∈ds∨∃d∈ds,(acc.getD d 0).testBit j=true
 | [],h=>by simp[qB]at h
 |d::l,h=>by
  simp only[qB,Nat.testBit_or,gJ]at h;rcases h with(h|h)|h
  ·rw[Nat.testBit_two_pow]at h;left;simp at h;simp[h]
  ·exact .inr ⟨d,by simp,h⟩
  ·rcases Ov h with h|⟨e,h1,h2⟩
   ·exact .inl (by simp[h])
   ·exact .inr ⟨e,by simp[h1],h2⟩
theorem mY(ops:List Oper):∀(l:List Oper) (acc:List Nat),(∀k,l[k]?=ops[acc.length+k]?)→(∀i m,acc[i]?=some m→∀j,m.testBit j=true→nu ops j i) →
  ∀i m,(dY l acc)[i]?=some m→∀j,m.testBit j=true→nu ops j i
 | [],acc,_,h=>h
 |o::l,acc,hl,h=>by
  refine mY ops l _ (fun k=>by have:=hl (k+1);simpa[fq,gL 1 k]using this) (fun i m him j hj=>?_);by_cases hi:i<acc.length
  ·rw[aw hi]at him;exact h i m him j hj
  ·rw[eH (by omega)]at him
   have hi0:i-acc.length=0:=by
    have:=(aL.1 him).1;simp at this;omega
   rw[hi0]at him;simp at him;subst him
   have ho:ops[i]?=some o:=by
    have:=hl 0;rw[show acc.length+0=i by omega]at this;simpa using this.symm
   rcases Ov hj with h1|⟨d,h1,h2⟩
   ·exact .one i j o ho h1
   ·refine .more i j d o ho h1 ?_
    cases hd:acc[d]? with
    |none=>simp[cH,hd]at h2
    |some m'=>exact h d m' hd j (by simpa[cH,hd]using h2)
theorem jz:∀{l:List Oper} {i:Nat},fF l i=true→∀(k:Nat) (o:Oper),l[k]?=some o→∀d∈gX o,d<i+k
 |o::l,i,h,0,o',ho,d,hd=>by
  simp only[fF,aI]at h;simp at ho;subst ho
  simpa using (List.all_eq_true.1 h.1) d hd
 |o::l,i,h,k+1,o',ho,d,hd=>by
  simp only[fF,aI]at h;have:=jz h.2 k o' (by simpa using ho) d hd
  omega
 | [],_,_,_,_,ho,_,_=>by simp at ho
theorem Ow{q:aA}{m:Nat}:∀{l:List aA} {j0:Nat},qC q m j0 l=true→∀(k:Nat) (p:aA),l[k]?=some p→m.testBit (j0+k)=true∨fE p q=true
 |p::l,j0,h,0,p',hp=>by
  simp only[qC,aI,gJ]at h;simp at hp;subst hp
  exact h.1
 |p::l,j0,h,k+1,p',hp=>by
  simp only[qC,aI]at h;have:=Ow h.2 k p' (by simpa using hp)
  rwa [show j0+1+k=j0+(k+1)by omega]at this
 | [],_,_,_,_,hp=>by simp at hp
theorem Ox:∀{todo:List aA} {ms:List Nat} {done:List aA},nr done todo ms=true→todo.length=ms.length ∧
  ∀(i:Nat) (q:aA) (m:Nat),todo[i]?=some q→ms[i]?=some m→∀(j:Nat) (p:aA),j<done.length+i→(done++todo)[j]?=some p→m.testBit j=true∨fE p q=true
 | [],[],_,_=>⟨rfl,fun i q m h=>by simp at h⟩
 | [],_::_,_,h=>by simp[nr]at h
 |_::_,[],_,h=>by simp[nr]at h
 |q::todo,m::ms,done,h=>by
  simp only[nr,aI]at h;obtain⟨h1,h2⟩:=Ox h.2;refine⟨by simp[h1],fun i q' m' hq hm j p hj hp=>?_⟩
  cases i with
  |zero=>
   simp at hq hm;subst hq;subst hm;have:=Ow h.1 j p (by rw[aw (by omega)]at hp;exact hp)
   rwa [cd]at this
  |succ i=>
   exact h2 i q' m' (by simpa using hq) (by simpa using hm) j p (by simp;omega) (by simpa using hp)
section
variable {X : Tie} {g : Gh} {w : World} {n : Dn} {fr : Fr} {a : Act} {S : St}
def kA{call:aX}(hty:dv X)(hM:eC X)(hC:cW X call){ops:Array Oper}{Q:Exit→Act→World→Prop}{o:Oper}{p:aA}{l:List aA}{r:Fr×St}
  (hc:dL X n ops o p=true)(hS:SR X g S w)(hF:FR X n g w fr a)(h:aY X.T call (p::l) fr S=some r){K:Act→World→Prop}
  (hK:∀g' w' a' fr1 S1,Le g w g' w'→SR X g' S1 w'→FR X n g' w' fr1 a'→aY X.T call l fr1 S1=some r→K a' w') :
  if Region.wanted o (yielded ops a.tmps)then o.wp X.P a w K Q else K (a.put o.dst undef) w:=by
 simp only[dL,aI,beq_iff_eq]at hc;obtain⟨⟨⟨hd,hlt⟩,hop⟩,hgd⟩:=hc
 have hdl:∀t,p.dst=some t→t<n:=by
  intro t ht;rw[hd]at ht;rw[ht]at hlt;simpa using hlt
 simp only[aY]at h;split at h
 ·cases h
 ·rename_i hw;rw[iT hF hgd hw,if_neg (by simp)];rw[←hd];exact hK g w _ _ _ (Le.refl g w) hS (hF.put hdl (pt X g w)) h
 ·rename_i hw;rw[iT hF hgd hw,if_pos rfl];split at h
  ·rename_i v S1 hst
   exact sT hty hM hC hS hF hop hst o.dst o.type o.pos o.after o.guard K Q (fun u w' hstep=>by
    obtain⟨g',hle,hS',hv⟩:=hstep;rw[←hd];exact hK g' w' _ _ _ hle hS' ((hF.mono hle).put hdl hv) h)
  ·cases h
def iV(pl:List aA)(listed:Array Bool):List aA:=(pl.zipIdx.filter fun q=>!listed.getD q.2 true).map (·.1)
theorem so{ops:Array Oper}:∀{l:List Oper} {ps:List aA},dX X n ops l ps=true→l.length=ps.length∧∀(i:Nat) (o:Oper),l[i]?=some o→∃p,ps[i]?=some p∧dL X n ops o p=true
 | [],[],_=>⟨rfl,fun i o h=>by simp at h⟩
 |o::l,p::ps,h=>by
  simp only[dX,aI]at h;obtain⟨h1,h2⟩:=so h.2;refine⟨by simp[h1],fun i o' ho=>?_⟩
  cases i with
  |zero=>simp at ho;subst ho;exact⟨p,rfl,h.1⟩
  |succ i=>exact h2 i o' (by simpa using ho)
 | [],_::_,h=>by simp[dX]at h
 |_::_,[],h=>by simp[dX]at h
def Oy(pl:List aA)(listed:Array Bool)(i:Nat)(q:aA)(hq:pl[i]?=some q)(hi:listed.getD i true=false)(hs:i<listed.size) :
  ∃pre post,iV pl listed=pre++q::post∧iV pl (listed.setIfInBounds i true)=pre++post∧∀p∈pre,∃j,j<i∧pl[j]?=some p∧listed.getD j true=false:=by
 have hlt:i<pl.length:=(aL.1 hq).1
 have hsplit:pl.zipIdx=(pl.zipIdx.take i)++(q,i)::(pl.zipIdx.drop (i+1)):=by
  have hz:pl.zipIdx[i]?=some (q,i):=by rw[qc,hq];simp
  have hzl:i<pl.zipIdx.length:=by simpa using hlt
  rw[bK hzl,ae]at hz;rw[←hz,List.getElem_cons_drop,kI]
 have hne:∀(l:List (aA×Nat)),(∀x∈l,x.2≠i)→l.filter (fun q=>!(listed.setIfInBounds i true).getD q.2 true)=l.filter (fun q=>!listed.getD q.2 true):=by
  intro l hl;apply zO;intro x hx
  have:(listed.setIfInBounds i true).getD x.2 true=listed.getD x.2 true:=by
   simp only[eG];rw[fJ (Ne.symm (hl x hx))]
  rw[this]
 have htake:∀x∈pl.zipIdx.take i,x.2<i∧pl[x.2]?=some x.1:=by
  intro x hx;obtain⟨k,hk⟩:=fm hx
  have hki:k<i:=by
   have:=(aL.1 hk).1;simp at this;omega
  rw[cT hki,qc]at hk
  cases hp:pl[k]? with
  |none=>rw[hp]at hk;cases hk
  |some p=>rw[hp]at hk;simp at hk;subst hk;exact⟨hki,hp⟩
 have hdrop:∀x∈pl.zipIdx.drop (i+1),x.2≠i:=by
  intro x hx;obtain⟨k,hk⟩:=fm hx;rw[gK,qc]at hk
  cases hp:pl[i+1+k]? with
  |none=>rw[hp]at hk;cases hk
  |some p=>rw[hp]at hk;simp at hk;subst hk;simp;omega
 refine⟨((pl.zipIdx.take i).filter fun q=>!listed.getD q.2 true).map (·.1),((pl.zipIdx.drop (i+1)).filter fun q=>!listed.getD q.2 true).map (·.1),?_,?_,?_⟩
 ·unfold iV
  conv=>lhs;rw[hsplit]
  rw[zN,QK (by simp only[hi];rfl),dp,cB]
 ·unfold iV
  conv=>lhs;rw[hsplit]
  rw[zN,zP (by simp[Array.getD,hs]),dp];rw[hne _ (fun x hx=>by have:=(htake x hx).1;omega),hne _ hdrop]
 ·intro p hp;obtain⟨x,hx,rfl⟩:=List.mem_map.1 hp;obtain⟨hx1,hx2⟩:=jU.1 hx;obtain⟨h1,h2⟩:=htake x hx1;exact⟨x.2,h1,h2,by simpa using hx2⟩
def dw{ops:Array Oper}{listed:Array Bool}{i:Nat}:i∈Region.ready .any ops listed ↔
  (i<ops.size∧listed.getD i true=false∧∃o,ops[i]?=some o∧∀d∈gX o,listed.getD d false=true):=by
 unfold Region.ready;simp only[jU,List.mem_range,aI,fV];constructor
 ·rintro⟨h1,h2,h3⟩;refine⟨h1,h2,ops[i],by simp[h1],fun d hd=>?_⟩;simp only[dy h1,ip,uB,QI]at h3;unfold gX at hd;obtain⟨e,he,rfl⟩:=List.mem_map.1 hd;obtain⟨he1,he2⟩:=jU.1 he;have:=h3 e (by simpa using he1);simp[he2]at this;simpa using this
 ·rintro⟨h1,h2,o,ho,h3⟩;refine⟨h1,h2,?_⟩;rw[ho];simp only[ip,uB,QI];intro e he;by_cases hb:Region.binds .any e=true
  ·have:=h3 e.on (List.mem_map.2 ⟨e,jU.2 ⟨by simpa using he,hb⟩,rfl⟩);simp[this]
  ·simp[hb]
def lF(ops:Array Oper)(listed:Array Bool):Prop:=∀(i:Nat) (o:Oper),ops[i]?=some o→listed.getD i true=true→∀d∈gX o,listed.getD d false=true
def nv{ops:Array Oper}{listed:Array Bool}(hd:lF ops listed)(hsz:listed.size=ops.size){j i:Nat}(hr:nu ops.toList j i) :
  (∀o,ops[i]?=some o→∀d∈gX o,listed.getD d false=true)→listed.getD j false=true:=by
 induction hr with
 |one i j o h hj=>intro hall;exact hall o (by simpa using h) j hj
 |more i j d o h hdm hr ih=>
  intro hall;have hdl:=hall o (by simpa using h) d hdm;refine ih (fun o' ho' e he=>hd d o' ho' ?_ e he)
  have:d<listed.size:=by
   have:=(bc.1 ho').1;omega
  simp[Array.getD,this]at hdl ⊢;exact hdl
def ZG{call:aX}(hty:dv X)(hM:eC X)(hC:cW X call){ops:Array Oper}{pl:List aA}{Q:Exit→Act→World→Prop}{fr':Fr}{S':St}
  (hchk:dX X n ops ops.toList pl=true)(hdraw:qD ops.toList pl=true):∀(fuel:Nat) (listed:Array Bool) (g:Gh) (w:World) (fr:Fr) (S:St) (a:Act),
  SR X g S w→FR X n g w fr a→listed.size=ops.size→lF ops listed→(iV pl listed).length≤fuel→aY X.T call (iV pl listed) fr S=some (fr',S') →
  (∀g' w' a',Le g w g' w'→SR X g' S' w'→FR X n g' w' fr' a'→Q .normal a' w')→wpAny X.P .any ops Q fuel listed a w:=by
 obtain⟨hlen,hget⟩:=so hchk;simp only[qD,aI]at hdraw;obtain⟨hback,hpairs⟩:=hdraw;obtain⟨hml,hps⟩:=Ox hpairs;have hmr:=mY ops.toList ops.toList [] (by simp) (fun i m h=>by simp at h)
 have hempty:∀listed:Array Bool,Region.ready .any ops listed=[]→listed.size=ops.size→iV pl listed=[]:=by
  intro listed hr hsz
  have hall:∀k,k<ops.size→listed.getD k true=true:=by
   intro k
   induction k using Nat.strongRecOn with
   |_ k ih=>
    intro hk
    cases hl:listed.getD k true with
    |true=>rfl
    |false=>
     have:k∈Region.ready .any ops listed:=dw.2 ⟨hk,hl,ops[k],by simp[hk],fun d hd=>by
      have hdk:d<k:=by
       have:=jz hback k ops[k] (by simp[hk]) d hd;omega
      have:=ih d hdk (by omega);have hds:d<listed.size:=by omega
      simp[Array.getD,hds]at this ⊢;exact this⟩
     rw[hr]at this;cases this
  unfold iV;rw[List.map_eq_nil_iff,oO];intro x hx
  have hx2:x.2<pl.length:=by
   obtain⟨k,hk⟩:=fm hx;rw[qc]at hk
   cases hp:pl[k]? with
   |none=>rw[hp]at hk;cases hk
   |some p=>
    rw[hp]at hk;simp at hk;subst hk;simpa using (aL.1 hp).1
  have:=hall x.2 (by rw[←hlen]at hx2;simpa using hx2);simp[this]
 intro fuel
 induction fuel with
 |zero=>
  intro listed g w fr S a hS hF hsz hdn hf h hQ;have hnil:iV pl listed=[]:=fW.1 (by omega);rw[hnil]at h;simp only[aY,ae,ba]at h;obtain⟨rfl,rfl⟩:=h;refine⟨?_,hQ g w a (Le.refl g w) hS hF⟩
  cases hr:Region.ready .any ops listed with
  |nil=>rfl
  |cons i l=>
   obtain⟨h1,h2,o,ho,_⟩:=dw.1 (show i∈Region.ready .any ops listed by rw[hr];simp);obtain⟨p,hp,_⟩:=hget i o (by simpa using ho);obtain⟨pre,post,e1,_,_⟩:=Oy pl listed i p hp h2 (by omega);rw[hnil]at e1;have:=congrArg List.length e1
   simp at this
 |succ fuel ih=>
  intro listed g w fr S a hS hF hsz hdn hf h hQ;refine⟨fun hr=>?_,fun i hi=>?_⟩
  ·rw[hempty listed hr hsz]at h;simp only[aY,ae,ba]at h;obtain⟨rfl,rfl⟩:=h;exact hQ g w a (Le.refl g w) hS hF
  ·obtain⟨h1,h2,o,ho,h3⟩:=dw.1 hi;obtain⟨q,hq,hcq⟩:=hget i o (by simpa using ho);obtain⟨pre,post,e1,e2,e3⟩:=Oy pl listed i q hq h2 (by omega)
   have hind:∀p∈pre,fE p q=true:=by
    intro p hp;obtain⟨j,hj1,hj2,hj3⟩:=e3 p hp
    have hil:i<(dY ops.toList []).length:=by
     rw[←hml,←hlen];simpa using h1
    rcases hps i q _ hq (bK hil) j p (by simpa using hj1) (by simpa using hj2)with hb|hb
    ·exfalso;have hr:=hmr i _ (bK hil) j hb;have hjl:=nv hdn hsz hr (fun o' ho' d hd=>by rw[ho]at ho';cases ho';exact h3 d hd);have hjs:j<listed.size:=by omega
     simp[Array.getD,hjs]at hjl hj3;rw[hjl]at hj3;cases hj3
    ·exact hb
   rw[e1]at h;have hsw:=px hind h;unfold wpOp;simp only[ho]
   have:=kA hty hM hC (Q:=Q) (K:=wpAny X.P .any ops Q fuel (listed.setIfInBounds i true)) hcq hS hF hsw (fun g1 w1 a1 fr1 S1 hle1 hS1 hF1 h1'=>by
    refine ih _ g1 w1 fr1 S1 a1 hS1 hF1 (by simpa using hsz) ?_ ?_ (by rw[e2];exact h1') (fun g2 w2 a2 hle2 hS2 hF2=>hQ g2 w2 a2 (hle1.trans hle2) hS2 hF2)
    ·intro k o' ho' hk d hd
     have hdl:listed.getD d false=true:=by
      by_cases hki:k=i
      ·subst hki;rw[ho]at ho';cases ho';exact h3 d hd
      ·refine hdn k o' ho' ?_ d hd;simp only[eG]at hk ⊢;rw[fJ (Ne.symm hki)]at hk;exact hk
     by_cases hdi:d=i
     ·subst hdi;have:d<listed.size:=by omega
      simp[Array.getD,this]
     ·simp only[eG]at hdl ⊢;rw[fJ (Ne.symm hdi)];exact hdl
    ·rw[e2];rw[e1]at hf;simp at hf ⊢;omega)
   split
   ·rename_i hw;rw[if_pos hw]at this;exact .inl this
   ·rename_i hw;rw[if_neg hw]at this;exact this
def ZH{call:aX}(hty:dv X)(hM:eC X)(hC:cW X call)(hmix:X.P.follows .mixedOrders=true){ops:Array Oper}{pl:List aA}{Q:Exit→Act→World→Prop}{fr':Fr}{S':St}
  (hchk:dX X n ops ops.toList pl=true)(hdraw:qD ops.toList pl=true)(hS:SR X g S w)(hF:FR X n g w fr a)(h:aY X.T call pl fr S=some (fr',S'))
  (hQ:∀g' w' a',Le g w g' w'→SR X g' S' w'→FR X n g' w' fr' a'→Q .normal a' w')(id:Nat):(Code.region id ops true).wp X.P Q a w:=by
 refine wp_region_any hmix ?_;have hw:∀{g':Gh} {w':World},Le g {w with drawn:=w.drawn+1} g' w'→Le g w g' w':=fun h=>⟨h.os,h.tape,h.output,h.size,h.obj,h.arr,h.asz,h.pub,h.cell,h.shape,h.objN,h.arrN,h.keep,h.pubN,h.mp,h.mpN,h.mf⟩
 have hle:Le g w g {w with drawn:=w.drawn+1}:=⟨rfl,rfl,rfl,aR _,fun _ _ h=>h,fun _ _ h=>h,fun _ _ h=>h,fun _=>aR _,fun _ _ _=>rfl,fun _ us _ _ h=>⟨us,h,rfl⟩,
  fun id _ h=>.inl ⟨id,h⟩,fun _ _ h=>.inl h,fun _ _ _ _ _=>rfl,fun _ _ _ _ _=>rfl,fun _ _ h=>h,fun _ _ h=>.inl h,fun _ _ _ h e=>⟨h,e⟩⟩
 have hS':SR X g S {w with drawn:=w.drawn+1}:=⟨fun id b hb=>by
  obtain⟨cs,us,t,h1,h2,h3,h4⟩:=hS.obj id b hb;exact⟨cs,us,t,h1,h2,h3,fun j c u e1 e2=>(h4 j c u e1 e2).mono hle⟩,hS.inj,hS.objpub,hS.arr,hS.asz,hS.lt,hS.maps.of (fun _ _ h=>h) (fun _ _ _=>rfl) (fun _ _ _=>rfl) (fun c u r=>r.mono hle) (fun _ _ _=>⟨rfl,rfl⟩) (fun _ _ _ _ h=>h),hS.gl.le hle⟩
 have hrest:iV pl (Array.replicate ops.size false)=pl:=by
  unfold iV;obtain⟨hlen,_⟩:=so hchk
  rw[jT.2 (fun x hx=>by
   obtain⟨k,hk⟩:=fm hx;rw[qc]at hk
   cases hp:pl[k]? with
   |none=>rw[hp]at hk;cases hk
   |some p=>
    rw[hp]at hk;simp at hk;subst hk
    have:k<ops.size:=by
     have:=(aL.1 hp).1;rw[←hlen]at this;simpa using this
    simp[Array.getD,this])]
  rw[List.zipIdx_map_fst]
 refine ZG hty hM hC hchk hdraw ops.size _ g _ fr S a hS' (hF.mono hle) (by simp) ?_ ?_ (by rw[hrest];exact h) (fun g' w' a' hle' hS2 hF2=>hQ g' w' a' (hw hle') hS2 hF2)
 ·intro i o ho hi;have:i<ops.size:=(bc.1 ho).1;simp[Array.getD,this]at hi
 ·rw[hrest,←(so hchk).1];simp
end
end Ps
set_option linter.defProp false
namespace Ps
open Go
def kB(X:Tie)(n:Nat)(ops:Array Oper):List Nat→List aA→Option (List (Nat×aA))
 |free,p::ps=>match free.find? (fun i=>match ops[i]? with|some o=>dL X n ops o p|none=>false)with
  |some i=>(match kB X n ops (free.erase i) ps with|some l=>some ((i,p)::l)|none=>none)
  |none=>none
 | [],[]=>some []
 |_::_,[]=>none
def nw(ms:List Nat):List (Nat×aA)→Bool
 | []=>true
 |x::l=>l.all (fun y=>(ms.getD y.1 0).testBit x.1||fE x.2 y.2)&&nw ms l
def yX(X:Tie)(n:Nat)(ops:Array Oper)(ps:List aA):Bool:=
 match kB X n ops (List.range ops.size) ps with
 |some ql=>fF ops.toList 0&&nw (dY ops.toList []) ql
 |none=>false
theorem qE{X:Tie}{n:Nat}{ops:Array Oper}:∀{ps:List aA} {free:List Nat} {ql:List (Nat×aA)},free.Nodup→kB X n ops free ps=some ql →
  ql.map (·.2)=ps∧(ql.map (·.1)).Perm free∧∀x∈ql,∃o,ops[x.1]?=some o∧dL X n ops o x.2=true
 | [],[],ql,_,h=>by simp only[kB,ae]at h;subst h;exact⟨rfl,tV _,fun x hx=>by cases hx⟩
 | [],_::_,ql,_,h=>by simp[kB]at h
 |p::ps,free,ql,hnd,h=>by
  simp only[kB]at h;split at h
  ·rename_i i hf;split at h
   ·rename_i l hl;cases h;obtain⟨h1,h2,h3⟩:=qE (hnd.erase i) hl;have hm:=QL hf;have hp:=List.find?_some hf;refine⟨by simp[h1],?_,fun x hx=>?_⟩
    ·simp only[cB];exact(List.Perm.cons i h2).trans (zW hm).symm
    ·rcases cY.1 hx with rfl|hx
     ·simp only at hp ⊢;split at hp
      ·rename_i o ho;exact⟨o,ho,hp⟩
      ·cases hp
     ·exact h3 x hx
   ·cases h
  ·cases h
theorem sq{ms:List Nat}:∀{l:List (Nat×aA)},nw ms l=true→l.Pairwise fun x y=>(ms.getD y.1 0).testBit x.1=true∨fE x.2 y.2=true
 | [],_=>.nil
 |x::l,h=>by
  simp only[nw,aI]at h;refine .cons (fun y hy=>?_) (sq h.2);have:=List.all_eq_true.1 h.1 y hy;simpa[gJ]using this
def bS{β:Type}(ql:List (Nat×β))(listed:Array Bool):List (Nat×β):=ql.filter fun q=>!listed.getD q.1 true
def Oz{β:Type}{ql:List (Nat×β)}{listed:Array Bool}{i:Nat}(hs:i<listed.size):bS ql (listed.setIfInBounds i true)=(bS ql listed).filter fun q=>q.1 != i:=by
 unfold bS;rw[List.filter_filter];apply zO;intro x _;by_cases h:x.1=i
 ·subst h;simp[Array.getD,hs]
 ·have:(listed.setIfInBounds i true).getD x.1 true=listed.getD x.1 true:=by
   simp only[eG];rw[fJ (Ne.symm h)]
  rw[this];simp[h]
def lG{β:Type}{ql:List (Nat×β)}{R:Nat×β→Nat×β→Prop}{listed:Array Bool}{i:Nat}{q:β}(hnd:(ql.map (·.1)).Nodup)(hpw:ql.Pairwise R)(hm:(i,q)∈ql)
  (hi:listed.getD i true=false)(hs:i<listed.size) :
  ∃pre post,bS ql listed=pre++(i,q)::post∧bS ql (listed.setIfInBounds i true)=pre++post∧∀p∈pre,R p (i,q)∧listed.getD p.1 true=false:=by
 have hmem:(i,q)∈bS ql listed:=jU.2 ⟨hm,by simp only[hi];rfl⟩;obtain⟨pre,post,e⟩:=List.append_of_mem hmem;have hnd':((bS ql listed).map (·.1)).Nodup:=hnd.sublist (zQ.map _);have hpw':(bS ql listed).Pairwise R:=hpw.sublist zQ;refine⟨pre,post,e,?_,fun p hp=>⟨?_,?_⟩⟩
 ·rw[Oz hs,e];rw[e]at hnd';simp only[dp,cB]at hnd';have h1:=zU.1 hnd';have hpre:∀x∈pre,x.1≠i:=fun x hx=>h1.2.2 x.1 (List.mem_map.2 ⟨x,hx,rfl⟩) i (by simp);have hpost:∀x∈post,x.1≠i:=fun x hx he=>(mm.1 h1.2.1).1 (he▸List.mem_map.2 ⟨x,hx,rfl⟩);rw[zN,zP (by simp),jT.2 (fun x hx=>by simpa using hpre x hx),jT.2 (fun x hx=>by simpa using hpost x hx)]
 ·rw[e]at hpw';exact(List.pairwise_append.1 hpw').2.2 p hp (i,q) (by simp)
 ·have:p∈bS ql listed:=by rw[e];simp[hp]
  have:=(jU.1 this).2;simpa using this
section
variable {X : Tie} {g : Gh} {w : World} {n : Dn} {fr : Fr} {a : Act} {S : St}
def ZI{call:aX}(hty:dv X)(hM:eC X)(hC:cW X call){ops:Array Oper}{ql:List (Nat×aA)}{Q:Exit→Act→World→Prop}{fr':Fr}{S':St}
  (hget:∀x∈ql,∃o,ops[x.1]?=some o∧dL X n ops o x.2=true)(hcov:∀i,i<ops.size→∃p,(i,p)∈ql)(hnd:(ql.map (·.1)).Nodup)(hback:fF ops.toList 0=true)
  (hpw:ql.Pairwise fun x y=>((dY ops.toList []).getD y.1 0).testBit x.1=true∨fE x.2 y.2=true):∀(fuel:Nat) (listed:Array Bool) (g:Gh) (w:World) (fr:Fr) (S:St) (a:Act),
  SR X g S w→FR X n g w fr a→listed.size=ops.size→lF ops listed→(bS ql listed).length≤fuel→aY X.T call ((bS ql listed).map (·.2)) fr S=some (fr',S') →
  (∀g' w' a',Le g w g' w'→SR X g' S' w'→FR X n g' w' fr' a'→Q .normal a' w')→wpAny X.P .any ops Q fuel listed a w:=by
 have hmr:=mY ops.toList ops.toList [] (by simp) (fun i m h=>by simp at h)
 have hempty:∀listed:Array Bool,Region.ready .any ops listed=[]→listed.size=ops.size→bS ql listed=[]:=by
  intro listed hr hsz
  have hall:∀k,k<ops.size→listed.getD k true=true:=by
   intro k
   induction k using Nat.strongRecOn with
   |_ k ih=>
    intro hk
    cases hl:listed.getD k true with
    |true=>rfl
    |false=>
     have:k∈Region.ready .any ops listed:=dw.2 ⟨hk,hl,ops[k],by simp[hk],fun d hd=>by
      have hdk:d<k:=by
       have:=jz hback k ops[k] (by simp[hk]) d hd;omega
      have:=ih d hdk (by omega);have hds:d<listed.size:=by omega
      simp[Array.getD,hds]at this ⊢;exact this⟩
     rw[hr]at this;cases this
  unfold bS;rw[oO];intro x hx;obtain⟨o,ho,_⟩:=hget x hx;have:=hall x.1 (bc.1 ho).1;simp[this]
 intro fuel
 induction fuel with
 |zero=>
  intro listed g w fr S a hS hF hsz hdn hf h hQ;have hnil:bS ql listed=[]:=fW.1 (by omega);rw[hnil]at h;simp only[lR,aY,ae,ba]at h;obtain⟨rfl,rfl⟩:=h;refine⟨?_,hQ g w a (Le.refl g w) hS hF⟩
  cases hr:Region.ready .any ops listed with
  |nil=>rfl
  |cons i l=>
   obtain⟨h1,h2,o,ho,_⟩:=dw.1 (show i∈Region.ready .any ops listed by rw[hr];simp);obtain⟨p,hp⟩:=hcov i h1;obtain⟨pre,post,e1,_,_⟩:=lG hnd hpw hp h2 (by omega);rw[hnil]at e1;have:=congrArg List.length e1
   simp at this
 |succ fuel ih=>
  intro listed g w fr S a hS hF hsz hdn hf h hQ;refine⟨fun hr=>?_,fun i hi=>?_⟩
  ·rw[hempty listed hr hsz]at h;simp only[lR,aY,ae,ba]at h;obtain⟨rfl,rfl⟩:=h;exact hQ g w a (Le.refl g w) hS hF
  ·obtain⟨h1,h2,o,ho,h3⟩:=dw.1 hi;obtain⟨q,hq⟩:=hcov i h1;obtain⟨o',ho',hcq⟩:=hget _ hq;simp only at ho';rw[ho]at ho';cases ho';obtain⟨pre,post,e1,e2,e3⟩:=lG hnd hpw hq h2 (by omega)
   have hind:∀p∈pre,fE p.2 q=true:=by
    intro p hp;obtain⟨hb|hb,hj3⟩:=e3 p hp
    ·exfalso
     have hil:i<(dY ops.toList []).length:=by
      by_cases hil:i<(dY ops.toList []).length
      ·exact hil
      ·rw[cH,cr (by omega)]at hb;simp at hb
     have hr:=hmr i _ (bK hil) p.1 (by rw[cH,bK hil]at hb;exact hb);have hjl:=nv hdn hsz hr (fun o' ho' d hd=>by rw[ho]at ho';cases ho';exact h3 d hd)
     have hjs:p.1<listed.size:=by
      by_cases hjs:p.1<listed.size
      ·exact hjs
      ·simp[Array.getD,hjs]at hj3
     simp[Array.getD,hjs]at hjl hj3;rw[hjl]at hj3;cases hj3
    ·exact hb
   rw[e1,dp,cB]at h
   have hsw:=px (by
    intro p hp;obtain⟨x,hx,rfl⟩:=List.mem_map.1 hp;exact hind x hx) h
   unfold wpOp;simp only[ho]
   have:=kA hty hM hC (Q:=Q) (K:=wpAny X.P .any ops Q fuel (listed.setIfInBounds i true)) hcq hS hF hsw (fun g1 w1 a1 fr1 S1 hle1 hS1 hF1 h1'=>by
    refine ih _ g1 w1 fr1 S1 a1 hS1 hF1 (by simpa using hsz) ?_ ?_ (by rw[e2,dp];exact h1') (fun g2 w2 a2 hle2 hS2 hF2=>hQ g2 w2 a2 (hle1.trans hle2) hS2 hF2)
    ·intro k o' ho' hk d hd
     have hdl:listed.getD d false=true:=by
      by_cases hki:k=i
      ·subst hki;rw[ho]at ho';cases ho';exact h3 d hd
      ·refine hdn k o' ho' ?_ d hd;simp only[eG]at hk ⊢;rw[fJ (Ne.symm hki)]at hk;exact hk
     by_cases hdi:d=i
     ·subst hdi;have:d<listed.size:=by omega
      simp[Array.getD,this]
     ·simp only[eG]at hdl ⊢;rw[fJ (Ne.symm hdi)];exact hdl
    ·rw[e2];rw[e1]at hf;simp at hf ⊢;omega)
   split
   ·rename_i hw;rw[if_pos hw]at this;exact .inl this
   ·rename_i hw;rw[if_neg hw]at this;exact this
def ZJ{call:aX}(hty:dv X)(hM:eC X)(hC:cW X call)(hmix:X.P.follows .mixedOrders=true){ops:Array Oper}{pl:List aA}{Q:Exit→Act→World→Prop}{fr':Fr}{S':St}
  (hchk:yX X n ops pl=true)(hS:SR X g S w)(hF:FR X n g w fr a)(h:aY X.T call pl fr S=some (fr',S'))
  (hQ:∀g' w' a',Le g w g' w'→SR X g' S' w'→FR X n g' w' fr' a'→Q .normal a' w')(id:Nat):(Code.region id ops true).wp X.P Q a w:=by
 unfold yX at hchk;split at hchk
 ·rename_i ql hql;simp only[aI]at hchk;obtain⟨e1,e2,e3⟩:=qE mo hql;have hnd:(ql.map (·.1)).Nodup:=e2.nodup_iff.2 mo;refine wp_region_any hmix ?_;have hw:∀{g':Gh} {w':World},Le g {w with drawn:=w.drawn+1} g' w'→Le g w g' w':=fun h=>⟨h.os,h.tape,h.output,h.size,h.obj,h.arr,h.asz,h.pub,h.cell,h.shape,h.objN,h.arrN,h.keep,h.pubN,h.mp,h.mpN,h.mf⟩
  have hle:Le g w g {w with drawn:=w.drawn+1}:=⟨rfl,rfl,rfl,aR _,fun _ _ h=>h,fun _ _ h=>h,fun _ _ h=>h,fun _=>aR _,fun _ _ _=>rfl,fun _ us _ _ h=>⟨us,h,rfl⟩,
   fun id _ h=>.inl ⟨id,h⟩,fun _ _ h=>.inl h,fun _ _ _ _ _=>rfl,fun _ _ _ _ _=>rfl,fun _ _ h=>h,fun _ _ h=>.inl h,fun _ _ _ h e=>⟨h,e⟩⟩
  have hS':SR X g S {w with drawn:=w.drawn+1}:=⟨fun id b hb=>by
   obtain⟨cs,us,t,h1,h2,h3,h4⟩:=hS.obj id b hb;exact⟨cs,us,t,h1,h2,h3,fun j c u e1 e2=>(h4 j c u e1 e2).mono hle⟩,hS.inj,hS.objpub,hS.arr,hS.asz,hS.lt,hS.maps.of (fun _ _ h=>h) (fun _ _ _=>rfl) (fun _ _ _=>rfl) (fun c u r=>r.mono hle) (fun _ _ _=>⟨rfl,rfl⟩) (fun _ _ _ _ h=>h),hS.gl.le hle⟩
  have hrest:bS ql (Array.replicate ops.size false)=ql:=by
   unfold bS;refine jT.2 (fun x hx=>?_);obtain⟨o,ho,_⟩:=e3 x hx;have:=(bc.1 ho).1;simp[Array.getD,this]
  refine ZI hty hM hC e3 (fun i hi=>?_) hnd hchk.1 (sq hchk.2) ops.size _ g _ fr S a hS' (hF.mono hle) (by simp) ?_ ?_ (by rw[hrest,e1];exact h) (fun g' w' a' hle' hS2 hF2=>hQ g' w' a' (hw hle') hS2 hF2)
  ·have:i∈ql.map (·.1):=e2.mem_iff.2 (by simpa using hi);obtain⟨x,hx,rfl⟩:=List.mem_map.1 this;exact⟨x.2,hx⟩
  ·intro i o ho hi;have:i<ops.size:=(bc.1 ho).1;simp[Array.getD,this]at hi
  ·rw[hrest];have:=e2.length_eq;simp at this;omega
 ·cases hchk
end
end Ps
