/- Whatever only computes: the model's run hands back what stands for the pure value. -/
import Derived.Test.YtbjefjhmnojdoaaGreatDefs
import Derived.Test.YtbjefjhmnojdoaaGreatSimA
import Derived.Laws.Tables
import Derived.Great.BuildSlice
set_option linter.defProp false
namespace Ps
open Go
section
variable {X : bF} {g : Gh} {w : World} {n : Dn} {fr : Fr} {a : Act}
def gq(b o k:Nat):(⟨b,o,none⟩:Addr).add k=⟨b,o+k,none⟩:=Addr.add_lit b o k
def pu(X:bF)(g:Gh)(w:World)(b o:Nat)(cs:List PV):Prop:=
 ∃us:Nat→Value,∀(j:Nat) (c:PV),cs[j]?=some c→w.cell? ⟨b,o+j,none⟩=some (us j)∧VR X g w c (us j)
def pu.drop{b o:Nat}{cs:List PV}(h:pu X g w b o cs)(k:Nat):pu X g w b (o+k) (cs.drop k):=by
 obtain⟨us,h⟩:=h;refine⟨fun j=>us (k+j),fun j c hc=>?_⟩;have:=h (k+j) c (by simpa[iw]using hc);rw[show o+k+j=o+(k+j)by omega];exact this
def EV{t:TypeId}{ag:Bool}{m:Nat}(h:jX X.P t ag m=true) :
  (isAgg t).run X.P w=.ok ag w∧(Go.sizeOf t).run X.P w=.ok m w∧(ag=false→m=1):=by
 simp only[jX,aV,jW,beq_iff_eq]at h;obtain⟨⟨h1,h2⟩,h3⟩:=h;refine⟨?_,?_,fun e=>by simpa[e]using h3⟩
 ·split at h1
  ·rename_i hu;subst h1;simp[isAgg,run_underlying hu]
  ·rename_i hu;subst h1;simp[isAgg,run_underlying hu]
  ·rename_i d h4 h5 hu;have:ag=false:=by simpa using h1
   subst this;simp only[isAgg,Sem.run_bind,run_underlying hu,Result.andThen];rfl
  ·cases h1
 ·split at h2
  ·rename_i i hi;simp only[beq_iff_eq]at h2;simp[Go.sizeOf,typeInfo,hi,h2]
  ·cases h2
def XD{ag:Bool}{m:Nat}{cs:List PV}{v:PV}(h:ae ag m cs=some v) :
  m≤cs.length∧((ag=true∧v=.agg (cs.take m))∨(ag=false∧m=1∧cs[0]?=some v)):=by
 unfold ae at h;split at h
 ·refine⟨‹_›,?_⟩;split at h
  ·cases h;exact .inl ⟨by assumption,rfl⟩
  ·rename_i hag;split at h
   ·split at h
    ·cases h;exact .inr ⟨by simpa using hag,by assumption,rfl⟩
    ·cases h
   ·cases h
 ·cases h
def zT{t:TypeId}{ag:Bool}{m b o:Nat}{cs:List PV}{v:PV}(ht:jX X.P t ag m=true)(hp:ae ag m cs=some v)(hc:pu X g w b o cs) :
  ∃u,(loadVar t ⟨b,o,none⟩).run X.P w=.ok u w∧VR X g w v u:=by
 obtain⟨us,hc⟩:=hc;obtain⟨h1,h2,h3⟩:=EV (w:=w) ht;obtain⟨hm,hv⟩:=XD hp;rcases hv with⟨rfl,rfl⟩|⟨rfl,rfl,h0⟩
 ·refine⟨.agg ((List.range m).map us).toArray,?_,?_⟩
  ·simp only[loadVar,Sem.run_bind,h1,h2,Result.andThen,if_true]
   rw[run_loadCells w ⟨b,o,none⟩ m us (fun j hj=>by
    obtain⟨c,hcj⟩:∃c,cs[j]?=some c:=⟨cs[j],by simp[cJ (by omega:j<cs.length)]⟩;rw[gq];exact(hc j c hcj).1)]
   rfl
  ·refine .agg _ _ (by simp[GP hm]) (fun j c u e1 e2=>?_)
   have hj:j<m:=by
    rcases kA j m with h|h
    ·exact h
    ·rw[iJ (by simp;omega)]at e1;cases e1
   have e2':us j=u:=by simpa[hj]using e2
   rw[←e2'];exact(hc j c (by rw[dM hj]at e1;exact e1)).2
 ·refine⟨us 0,?_,(hc 0 v h0).2⟩;have:=(hc 0 v h0).1;simp only[gB]at this;simp[loadVar,h1,this]
def zU{cs:List PV}{u:Value}(r:VR X g w (.ref cs) u):∃b o,u=.pointer (some ⟨b,o,none⟩)∧pu X g w b o cs∧o+cs.length≤g.pub b:=by
 cases r with
 |ref cs b o us hpub hc hv=>
  refine⟨b,o,rfl,⟨us,fun j c h=>⟨hc j ?_,hv j c h⟩⟩,hpub⟩;rcases kA j cs.length with h'|h'
  ·exact h'
  ·rw[iJ h']at h;cases h
def zV{cs:List PV}{b o:Nat}(h:pu X g w b o cs)(hp:o+cs.length≤g.pub b):VR X g w (.ref cs) (.pointer (some ⟨b,o,none⟩)):=by
 obtain⟨us,h⟩:=h;refine .ref cs b o us hp (fun j hj=>?_) (fun j c hc=>(h j c hc).2);exact(h j cs[j] (by simp[cJ hj])).1
def pw{S:St}(hS:SR X g S w){id b:Nat}(hid:g.obj id=some b){cs:List PV}(hcs:S.objs[id]?=some cs):pu X g w b 0 cs:=by
 obtain⟨cs',us,t,h1,h2,h3,h4⟩:=hS.obj id b hid;rw[hcs]at h1;cases h1;refine⟨fun j=>us.getD j undef,fun j c hc=>?_⟩
 have hj:j<us.size:=by
  rcases kA j cs.length with h'|h'
  ·omega
  ·rw[iJ h']at hc;cases hc
 have e:us[j]?=some (us.getD j undef):=by simp[Array.getD,hj]
 exact⟨by simp[World.cell?,h2,hj,Array.getD],h4 j c _ hc e⟩
def XE{t:TypeId}{ag:Bool}{m off:Nat}{cs:List PV}{us:Array Value}{v:PV}(ht:jX X.P t ag m=true)(hp:ae ag m (cs.drop off)=some v)
  (hl:cs.length=us.size)(hv:∀(j:Nat)(c:PV)(u:Value),cs[j]?=some c→us[j]?=some u→VR X g w c u) :
  ∃u,(part t us off).run X.P w=.ok u w∧VR X g w v u:=by
 obtain⟨h1,h2,h3⟩:=EV (w:=w) ht;obtain⟨hm,hv'⟩:=XD hp;simp only[kX]at hm;rcases hv' with⟨rfl,rfl⟩|⟨rfl,rfl,h0⟩
 ·refine⟨.agg (us.extract off (off+m)),by simp[part,h1,h2],.agg _ _ ?_ (fun j c u e1 e2=>?_)⟩
  ·simp;omega
  ·have hj:j<m:=by
    rcases kA j m with h|h
    ·exact h
    ·rw[iJ (by simp;omega)]at e1;cases e1
   rw[dM hj,iw]at e1;refine hv (off+j) c u e1 ?_;rw[Fu]at e2;split at e2
   ·exact e2
   ·cases e2
 ·rw[iw,gB]at h0
  have hlt:off<us.size:=by
   rw[←hl];rcases kA off cs.length with h|h
   ·exact h
   ·rw[iJ h]at h0;cases h0
  refine⟨us[off],by simp[part,h1,hlt],hv off v _ h0 (by simp[hlt])⟩
def oL{v:PV}{u:Value}{y l:Nat}{code:BoundsCode}(r:VR X g w v u)(h:fE y v=some l):(Instr.sliceBound u y code).run X.P w=.ok l w∧l≤y:=by
 cases r<;>try (simp[fE]at h;done)
 simp only[fE]at h;split at h
 ·rename_i hb;cases h;exact⟨run_sliceBound w _ _ _ _ hb.1 hb.2,by omega⟩
 ·cases h
def aFA{len c cap l h:Nat}{lo hi:Option PV}(hb:dP len c lo hi=some (l,h))(h1:len≤c)(h2:c≤cap):dP len cap lo hi=some (l,h)∧h≤c:=by
 simp only[dP]at hb ⊢
 have key:∀H,iR len c hi=some H→iR len cap hi=some H∧H≤c:=by
  intro H hH
  cases hi with
  |none=>simp only[iR,bU]at hH ⊢;exact⟨hH,by omega⟩
  |some v=>
   simp only[iR]at hH ⊢;unfold fE at hH ⊢;split at hH
   ·split at hH
    ·rename_i hq;simp only[bU]at hH;rw[if_pos ⟨hq.1,by omega⟩];exact⟨by rw[hH],by omega⟩
    ·cases hH
   ·cases hH
 cases hH:iR len c hi with
 |none=>rw[hH]at hb;cases hb
 |some H=>
  obtain⟨q1,q2⟩:=key H hH;rw[hH]at hb;rw[q1];refine⟨hb,?_⟩;simp only at hb;split at hb
  ·cases hb
  ·split at hb
   ·cases hb;exact q2
   ·cases hb
def oM(hF:FR X n g w fr a){lo hi:Option aM}{lo' hi':Option Operand}(hlo:gE X lo' lo=true)(hhi:gE X hi' hi=true)
  {sl:Bool}{len cap l h:Nat}(hb:dP len cap (cW fr lo) (cW fr hi)=some (l,h))(hlen:len≤cap) :
  (Instr.sliceBounds sl len cap (lo'.map a.eval) (hi'.map a.eval) none).run X.P w=.ok (l,h,cap) w∧l≤h∧h≤cap:=by
 have hH:∃H,(match hi'.map a.eval with|some v=>Instr.sliceBound v cap (if sl then .sliceAcap else .sliceAlen)|none=>pure len).run X.P w=.ok H w∧H≤cap∧iR len cap (cW fr hi)=some H:=by
  cases hi<;>cases hi'<;>simp only[gE]at hhi<;>try (cases hhi;done)
  ·exact⟨len,by simp,hlen,rfl⟩
  ·rename_i y x;have r:=bZ hF hhi
   cases hbd:fE cap (ev fr y)with
   |none=>simp[dP,iR,cW,hbd]at hb
   |some H=>
    obtain⟨h1,h2⟩:=oL (code:=if sl then .sliceAcap else .sliceAlen) r hbd;exact⟨H,by simpa using h1,h2,hbd⟩
 obtain⟨H,hrun,hHc,heq⟩:=hH;simp only[dP,heq]at hb
 have hL:∃L,(match lo'.map a.eval with|some v=>Instr.sliceBound v H .sliceB|none=>pure 0).run X.P w=.ok L w∧kD H (cW fr lo)=some L:=by
  cases lo<;>cases lo'<;>simp only[gE]at hlo<;>try (cases hlo;done)
  ·exact⟨0,by simp,rfl⟩
  ·rename_i y x;have r:=bZ hF hlo
   cases hbd:fE H (ev fr y)with
   |none=>simp[kD,cW,hbd]at hb
   |some L=>
    obtain⟨h1,h2⟩:=oL (code:=.sliceB) r hbd;exact⟨L,by simpa using h1,hbd⟩
 obtain⟨L,hrunL,heqL⟩:=hL;simp only[heqL]at hb;split at hb
 ·rename_i hle;cases hb;refine⟨?_,hle,hHc⟩;cases hi'<;>cases lo'<;>simp_all[Instr.sliceBounds]
 ·cases hb
end
end Ps
set_option linter.defProp false
namespace Ps
open Go
section
variable {X : bF} {g : Gh} {w : World} {n : Dn} {fr : Fr} {a : Act}
def cZ(X:bF)(g:Gh)(w:World)(cs:List PV)(us:Array Value):Prop:=
 cs.length=us.size∧∀(j:Nat) (c:PV) (u:Value),cs[j]?=some c→us[j]?=some u→VR X g w c u
theorem XF:∀(vs:List Value) (i off:Nat) (cells:Array Value),
  ((vs.zipIdx i).foldl (fun cs (p:Value×Nat)=>cs.setIfInBounds (off+p.2) p.1) cells).size=cells.size ∧
  ∀k,((vs.zipIdx i).foldl (fun cs (p:Value×Nat)=>cs.setIfInBounds (off+p.2) p.1) cells)[k]? =
   if off+i≤k∧k<off+i+vs.length∧k<cells.size then vs[k-off-i]? else cells[k]?
 | [],i,off,cells=>⟨rfl,fun k=>by
   rw[if_neg (by simp;omega)];rfl⟩
 |v::vs,i,off,cells=>by
  simp only[List.zipIdx_cons,vz];obtain⟨h1,h2⟩:=XF vs (i+1) off (cells.setIfInBounds (off+i) v);refine⟨by rw[h1];simp,fun k=>?_⟩;rw[h2 k];simp only[Array.size_setIfInBounds,bV];by_cases hk:k=off+i
  ·subst hk;rw[if_neg (by omega)];by_cases hs:off+i<cells.size
   ·rw[if_pos (by omega)];simp[hs]
   ·rw[if_neg (by omega)];simp[hs]
  ·rw[jV (by omega)];by_cases hc:off+(i+1)≤k∧k<off+(i+1)+vs.length∧k<cells.size
   ·rw[if_pos hc,if_pos (by omega)];obtain⟨m,rfl⟩:∃m,k=off+i+1+m:=⟨k-(off+i+1),by omega⟩;rw[show off+i+1+m-off-i=m+1 by omega,show off+i+1+m-off-(i+1)=m by omega];simp
   ·rw[if_neg hc,if_neg (by omega)]
def XG(cs:List PV)(off:Nat)(vs:List PV)(h:off+vs.length≤cs.length)(k:Nat) :
  (aR cs off vs)[k]?=if off≤k∧k<off+vs.length then vs[k-off]? else cs[k]?:=by
 unfold aR;by_cases h1:k<off
 ·rw[if_neg (by omega),iv,bP (by simp;omega),dM h1]
 ·by_cases h2:k<off+vs.length
  ·rw[if_pos (by omega),iv,gu (by simp;omega)];rw[bP (by simp;omega)];simp[GP (by omega:off≤cs.length)]
  ·rw[if_neg (by omega),gu (by simp;omega)];rw[iw]
   congr 1
   simp only[List.length_append,List.length_take];omega
def XH(cs:List PV)(off:Nat)(vs:List PV)(h:off+vs.length≤cs.length):(aR cs off vs).length=cs.length:=by
 simp[aR];omega
def EW{cs vs:List PV}{us ws:Array Value}{off:Nat}(h:cZ X g w cs us)(k:cZ X g w vs ws)(hl:off+vs.length≤cs.length) :
  cZ X g w (aR cs off vs) (ws.zipIdx.foldl (fun cs (p:Value×Nat)=>cs.setIfInBounds (off+p.2) p.1) us):=by
 have e:ws.zipIdx.foldl (fun cs (p:Value×Nat)=>cs.setIfInBounds (off+p.2) p.1) us =
   (ws.toList.zipIdx 0).foldl (fun cs (p:Value×Nat)=>cs.setIfInBounds (off+p.2) p.1) us:=by
  rw[←Array.foldl_toList,Array.toList_zipIdx]
 rw[e];obtain⟨h1,h2⟩:=XF ws.toList 0 off us;refine⟨by rw[XH _ _ _ hl,h1];exact h.1,fun j c u e1 e2=>?_⟩;rw[h2]at e2;rw[XG _ _ _ hl]at e1;have hk:=k.1;have hh:=h.1;by_cases hc:off≤j∧j<off+vs.length
 ·rw[if_pos hc]at e1;rw[if_pos (by simp;omega)]at e2;exact k.2 (j-off) c u e1 (by simpa using e2)
 ·rw[if_neg hc]at e1;rw[if_neg (by simp;omega)]at e2;exact h.2 j c u e1 e2
def rt{v:PV}{u:Value}(r:VR X g w v u)(h:v.cells.all PV.one=true):cZ X g w v.cells u.cells:=r.cells h
theorem XI(hF:FR X n g w fr a)(places:List (Nat×Nat))(place:Nat→Option (Nat×Nat))(hpl:∀i,place i=places[i]?):∀(ps:List (Nat×Operand)) (parts:List (Nat×Nat×aM)) (cs cs':List PV) (us:Array Value),
  ov X places ps parts=true→bK fr parts cs=some cs'→cZ X g w cs us →
  ∃us',Instr.fill place us (ps.map fun p=>(p.1,a.eval p.2))=some us'∧cZ X g w cs' us'
 | [],[],cs,cs',us,_,h,hv=>by cases h;exact⟨us,rfl,hv⟩
 |(i,x)::l,(off,m,y)::r,cs,cs',us,hc,h,hv=>by
  simp only[ov,aV,beq_iff_eq]at hc;obtain⟨⟨h1,h2⟩,h3⟩:=hc;simp only[bK]at h;split at h
  ·rename_i hcond;obtain⟨e1,e2,e3⟩:=hcond;have r0:=rt (bZ hF h2) e3;have hput:=EW (off:=off) hv r0 (by omega);obtain⟨us',f1,f2⟩:=XI hF places place hpl l r _ cs' _ h3 h hput;refine⟨us',?_,f2⟩;simp only[dS,Instr.fill,hpl,h1];have:(a.eval x).cells.size=m:=by rw[←r0.1];exact e1
   rw[if_neg (by simp[this,←hv.1,e2])];exact f1
  ·cases h
 | [],_::_,_,_,_,hc,_,_=>by simp[ov]at hc
 |_::_,[],_,_,_,hc,_,_=>by simp[ov]at hc
theorem XJ(hF:FR X n g w fr a)(sz:Nat):∀(ps:List (Nat×Operand)) (parts:List (Nat×Nat×aM)) (cs cs':List PV) (us:Array Value),
  ow X sz ps parts=true→bK fr parts cs=some cs'→cZ X g w cs us →
  ∃us',Instr.fill (fun i=>some (i*sz,sz)) us (ps.map fun p=>(p.1,a.eval p.2))=some us'∧cZ X g w cs' us'
 | [],[],cs,cs',us,_,h,hv=>by cases h;exact⟨us,rfl,hv⟩
 |(i,x)::l,(off,m,y)::r,cs,cs',us,hc,h,hv=>by
  simp only[ow,aV,beq_iff_eq]at hc;obtain⟨⟨⟨h0,h1⟩,h2⟩,h3⟩:=hc;simp only[bK]at h;split at h
  ·rename_i hcond;obtain⟨e1,e2,e3⟩:=hcond;have r0:=rt (bZ hF h2) e3;have hput:=EW (off:=off) hv r0 (by omega);obtain⟨us',f1,f2⟩:=XJ hF sz l r _ cs' _ h3 h hput;refine⟨us',?_,f2⟩;simp only[dS,Instr.fill];have:(a.eval x).cells.size=sz:=by rw[←r0.1,←h1];exact e1
   rw[if_neg (by simp[this,←hv.1];omega),←h0];exact f1
  ·cases h
 | [],_::_,_,_,_,hc,_,_=>by simp[ow]at hc
 |_::_,[],_,_,_,hc,_,_=>by simp[ow]at hc
theorem ji{sz:Nat}:∀{es:List PV},(∀e∈es,e.cells.length=sz)→(es.flatMap PV.cells).length=es.length*sz
 | [],_=>by simp
 |e::es,h=>by
  simp only[fB,List.length_append,bV];rw[h e (by simp),ji (fun x hx=>h x (by simp[hx]))];rw[dh];omega
theorem oN{sz:Nat}:∀{es:List PV} {i:Nat} {e:PV},(∀e∈es,e.cells.length=sz)→es[i]?=some e→∀k,k<sz→(es.flatMap PV.cells)[i*sz+k]?=e.cells[k]?
 |x::es,0,e,h,he,k,hk=>by
  simp at he;subst he;simp only[fB];rw[bP (by rw[h _ (by simp)];omega)]
  simp
 |x::es,i+1,e,h,he,k,hk=>by
  simp only[fB];have hx:=h x (by simp);rw[gu (by rw[hx,dh];omega),hx];rw[show(i+1)*sz+k-sz=i*sz+k by rw[dh];omega]
  exact oN (fun y hy=>h y (by simp[hy])) (by simpa using he) k hk
 | [],_,_,_,he,_,_=>by simp at he
theorem XK{sz:Nat}:∀{es:List PV} (l:Nat),(∀e∈es,e.cells.length=sz)→l≤es.length→(es.drop l).flatMap PV.cells=(es.flatMap PV.cells).drop (l*sz)
 |es,0,_,_=>by simp
 |e::es,l+1,h,hl=>by
  simp only[List.drop_succ_cons,fB];rw[XK l (fun y hy=>h y (by simp[hy])) (by simpa using hl)];have hx:=h e (by simp);rw[show(l+1)*sz=e.cells.length+l*sz by rw[hx,dh];omega,GC]
  simp
 | [],l+1,_,hl=>by simp at hl
theorem XL{sz:Nat}:∀{es:List PV} {i:Nat} {v:PV},(∀e∈es,e.cells.length=sz)→i<es.length→v.cells.length=sz →
  (es.set i v).flatMap PV.cells=aR (es.flatMap PV.cells) (i*sz) v.cells
 |e::es,0,v,h,hi,hv=>by
  have hx:=h e (by simp)
  simp[aR,hv,←hx]
 |e::es,i+1,v,h,hi,hv=>by
  have hx:=h e (by simp);simp only[List.set_cons_succ,fB];rw[XL (fun y hy=>h y (by simp[hy])) (by simpa using hi) hv];simp only[aR];rw[show(i+1)*sz=e.cells.length+i*sz by rw[hx,dh];omega];rw[List.take_length_add_append,iL,List.drop_length_add_append]
  simp
 | [],_,_,_,hi,_=>by simp at hi
theorem EY:∀{es:List PV},(∀e∈es,e.cells=[e])→es.flatMap PV.cells=es
 | [],_=>rfl
 |e::es,h=>by
  simp only[fB];rw[h e (by simp),EY (fun y hy=>h y (by simp[hy]))];rfl
theorem EZ:∀{es:List PV} {s:List UInt8},lL es=some s→es.length=s.length∧(∀e∈es,e.cells=[e]) ∧
  ∃ns:List Int,es=ns.map (PV.int .u8)∧s=ns.map (fun m=>UInt8.ofNat m.toNat)
 | [],s,h=>by cases h;exact⟨rfl,by simp,[],rfl,rfl⟩
 |e::es,s,h=>by
  unfold lL at h;split at h
  ·rename_i heq;cases heq
  ·rename_i m l heq;cases heq;split at h
   ·rename_i r hr;cases h;obtain⟨h1,h2,ns,h3,h4⟩:=EZ hr;refine⟨by simp[h1],?_,m::ns,by simp[h3],by simp[h4]⟩;intro x hx;rcases cX.1 hx with rfl|hx
    ·rfl
    ·exact h2 x hx
   ·cases h
  ·cases h
end
end Ps
set_option linter.defProp false
namespace Ps
open Go
section
variable {X : bF} {g : Gh} {w : World} {n : Dn} {fr : Fr} {a : Act}
def Ea{isb:Bool}{c d:PV}{l m:List PV}{b:Bool}(h:dy isb (c::l) (d::m)=some b) :
  ∃r,dy isb l m=some r∧((isb=true∧∃x y,c=.bool x∧d=.bool y∧b=(x==y&&r))∨(isb=false∧∃k x y,c=.int k x∧d=.int k y∧b=(x==y&&r))):=by
 unfold dy at h;split at h
 ·rename_i heq;cases heq
 ·rename_i x l' y m' h1 h2;cases h1;cases h2;split at h
  ·rename_i hb;split at h
   ·rename_i r hr;cases h;exact⟨r,hr,.inl ⟨hb,x,y,rfl,rfl,rfl⟩⟩
   ·cases h
  ·cases h
 ·rename_i k x l' j y m' h1 h2;cases h1;cases h2;split at h
  ·rename_i hk;simp only[aV,kV,decide_eq_true_eq]at hk;obtain⟨hb,hk⟩:=hk;subst hk;split at h
   ·rename_i r hr;cases h;exact⟨r,hr,.inr ⟨hb,k,x,y,rfl,rfl,rfl⟩⟩
   ·cases h
  ·cases h
 ·cases h
theorem XM(isb:Bool)(d:Nat)(e:TypeId)(us vs:Array Value)(hsz:(Go.sizeOf e).run X.P w=.ok 1 w)(hag:(isAgg e).run X.P w=.ok false w)
  (he:if isb then X.P.underlying e=some .bool else ∃k,X.P.underlying e=some (.int k)):∀(cs ds:List PV) (i:Nat) (b:Bool),
  (∀(j:Nat) (c:PV),cs[j]?=some c→∃u,us[i+j]?=some u∧VR X g w c u)→(∀(j:Nat) (c:PV),ds[j]?=some c→∃u,vs[i+j]?=some u∧VR X g w c u) →
  cs.length=ds.length→dy isb cs ds=some b →
  ((forIn (List.range' i cs.length) (none,PUnit.unit) (fun i (_:Option Bool×PUnit)=>do
    let x ←part e us (i*1);let y ←part e vs (i*1);let r ←Op.equalIn (d+1) e x y
    if(!r)=true then pure (ForInStep.done (some false,PUnit.unit))else pure (ForInStep.yield (none,PUnit.unit))):Sem (Option Bool×PUnit))).run X.P w=.ok (if b then none else some false,PUnit.unit) w
 | [],[],i,b,_,_,_,h=>by cases h;simp
 | [],_::_,_,_,_,_,hl,_=>by simp at hl
 |_::_,[],_,_,_,_,hl,_=>by simp at hl
 |c::cs,c'::ds,i,b,hc,hd,hl,h=>by
  obtain⟨r,hr,hcase⟩:=Ea h;obtain⟨u,hu,ru⟩:=hc 0 c rfl;obtain⟨v,hv,rv⟩:=hd 0 c' rfl
  have ih:=XM isb d e us vs hsz hag he cs ds (i+1) r
   (fun j x hx=>by have:=hc (j+1) x (by simpa using hx);rwa [show i+(j+1)=i+1+j by omega]at this)
   (fun j x hx=>by have:=hd (j+1) x (by simpa using hx);rwa [show i+(j+1)=i+1+j by omega]at this) (by simpa using hl) hr
  simp only[gB]at hu hv;have p1:(part e us (i*1)).run X.P w=.ok u w:=by simp[part,hag,hu]
  have p2:(part e vs (i*1)).run X.P w=.ok v w:=by simp[part,hag,hv]
  simp only[bV,sh,List.forIn_cons,Sem.run_bind,p1,p2,Result.andThen_ok]
  have hq:∃q,(Op.equalIn (d+1) e u v).run X.P w=.ok q w∧b=(q&&r):=by
   rcases hcase with⟨rfl,x,y,rfl,rfl,hb⟩|⟨rfl,k,x,y,rfl,rfl,hb⟩
   ·cases ru;cases rv;simp only[if_true]at he;exact⟨x==y,by simp[Op.equalIn,run_underlying he],hb⟩
   ·cases ru;cases rv;simp only[cF,if_false]at he;obtain⟨k',he⟩:=he;exact⟨x==y,by simp[Op.equalIn,run_underlying he],hb⟩
  obtain⟨q,hq1,hq2⟩:=hq;rw[hq1];simp only[Result.andThen_ok];cases q
  ·simp only[hq2];simp
  ·simp only[vt,cF,if_false,Sem.run_pure,Result.andThen_ok];rw[hq2];simpa using ih
def aFB{neg isb:Bool}{m:Nat}{t:TypeId}{x y:Operand}{cs ds:List PV}{us vs:Array Value}{b:Bool}(ht:wI X.P t isb m=true)
  (hl:cs.length=m)(hl':ds.length=m)(he:dy isb cs ds=some b)(r1:cZ X g w cs us)(r2:cZ X g w ds vs) :
  ((eqGuard (dU neg) t x y (.agg us) (.agg vs)).bind fun _=>binOp (dU neg) t (.agg us) (.agg vs)).run X.P w=.ok (.bool (if neg then !b else b)) w:=by
 unfold wI at ht;split at ht
 ·rename_i m' e hu;simp only[aV,beq_iff_eq,kV]at ht;obtain⟨⟨⟨rfl,h2⟩,h3⟩,h4⟩:=ht
  have hsz:(Go.sizeOf e).run X.P w=.ok 1 w:=by
   split at h2
   ·rename_i i hi;simp only[beq_iff_eq]at h2;simp[Go.sizeOf,typeInfo,hi,h2]
   ·cases h2
  have hag:(isAgg e).run X.P w=.ok false w:=by
   split at h3
   ·rename_i hu;simp[isAgg,run_underlying hu]
   ·rename_i hu;simp[isAgg,run_underlying hu]
   ·cases h3
  have hee:if isb then X.P.underlying e=some .bool else ∃k,X.P.underlying e=some (.int k):=by
   split at h3
   ·rename_i hu;simp[h3,hu]
   ·rename_i k hu;simp only[kV]at h3;simp[h3,hu]
   ·cases h3
  have hin:∀D,(∃d,D=d+1)→(Op.equalIn (D+1) t (.agg us) (.agg vs)).run X.P w=.ok b w:=by
   intro D hD;simp only[Op.equalIn,Sem.run_bind,run_underlying hu,Result.andThen_ok,hsz,Std.Legacy.Range.forIn_eq_forIn_range',Std.Legacy.Range.size,Nat.sub_zero,Nat.add_sub_cancel,Nat.div_one];obtain⟨d,rfl⟩:=hD
   have:=XM isb d e us vs hsz hag hee cs ds 0 b
    (fun j c hc=>by
     have:j<us.size:=by rw[←r1.1];exact(aS.1 hc).1
     exact⟨us[j],by simp[this],r1.2 j c _ hc (by simp[this])⟩)
    (fun j c hc=>by
     have:j<vs.size:=by rw[←r2.1];exact(aS.1 hc).1
     exact⟨vs[j],by simp[this],r2.2 j c _ hc (by simp[this])⟩) (by omega) he
   rw[hl]at this;rw[this];cases b<;>simp
  have hg:(eqGuard (dU neg) t x y (.agg us) (.agg vs)).run X.P w=.ok () w:=by
   cases neg<;>simp[eqGuard,dU,h4]
  have he':(Op.equal t (.agg us) (.agg vs)).run X.P w=.ok b w:=hin 9999 ⟨9998,rfl⟩;rw[Sem.run_bind',hg];cases neg
  ·simp[dU,binOp,he']
  ·simp[dU,binOp,he']
 ·cases ht
theorem XN{isb:Bool}:∀(k:Nat) {cs ds:List PV} {b:Bool},dy isb cs ds=some b→cs.length=ds.length→∃r1 r2,dy isb (cs.take k) (ds.take k)=some r1∧dy isb (cs.drop k) (ds.drop k)=some r2∧b=(r1&&r2)
 |0,cs,ds,b,h,_=>⟨true,b,by simp[dy],by simpa using h,by simp⟩
 |k+1,[],[],b,h,_=>⟨true,b,by simp[dy],by simpa using h,by simp⟩
 |k+1,[],_::_,b,h,hl=>by simp at hl
 |k+1,_::_,[],b,h,hl=>by simp at hl
 |k+1,c::cs,d::ds,b,h,hl=>by
  obtain⟨r,hr,hcase⟩:=Ea h;obtain⟨r1,r2,e1,e2,e3⟩:=XN k hr (by simpa using hl);rcases hcase with⟨rfl,x,y,rfl,rfl,hb⟩|⟨rfl,q,x,y,rfl,rfl,hb⟩
  ·refine⟨x==y&&r1,r2,?_,by simpa using e2,by rw[hb,e3,Fx]⟩;simp[dy,e1]
  ·refine⟨x==y&&r1,r2,?_,by simpa using e2,by rw[hb,e3,Fx]⟩;simp[dy,e1]
def ry(X:bF)(g:Gh)(w:World)(us:Array Value)(off:Nat)(cs:List PV):Prop:=∀(j:Nat) (c:PV),cs[j]?=some c→∃u,us[off+j]?=some u∧VR X g w c u
def Eb(X:bF)(g:Gh)(w:World)(D:Nat)(t:TypeId)(n:Nat):Prop:=∀(us vs:Array Value) (off:Nat) (cs ds:List PV) (b:Bool),cs.length=n→ds.length=n→ry X g w us off cs→ry X g w vs off ds→dy false cs ds=some b →
 ∃x y,(part t us off).run X.P w=.ok x w∧(part t vs off).run X.P w=.ok y w∧(Op.equalIn D t x y).run X.P w=.ok b w
theorem XO{P:Program}{G:TypeId→Nat→Bool}:∀{l:List Field} {off n:Nat},mI P G l off n=true→off≤n
 | [],off,n,h=>by simp only[mI,beq_iff_eq]at h;omega
 |f::l,off,n,h=>by
  simp only[mI,aV]at h;have h3:=h.2;split at h3
  ·simp only[aV]at h3;have:=XO h3.2;omega
  ·cases h3
theorem XP{D:Nat}{G:TypeId→Nat→Bool}(hG:∀t n,G t n=true→(∃i,X.P.info? t=some i∧i.size=n)→Eb X g w D t n)(us vs:Array Value):∀(l:List Field) (off n:Nat) (cs ds:List PV) (b:Bool),
  mI X.P G l off n=true→off+cs.length=n→cs.length=ds.length→ry X g w us off cs→ry X g w vs off ds→dy false cs ds=some b →
  ((forIn l (none,PUnit.unit) (fun f (_:Option Bool×PUnit)=>
    if f.name ≠ "_" then do
     let x ←part f.type us f.offset;let y ←part f.type vs f.offset;let r ←Op.equalIn D f.type x y
     if(!r)=true then pure (ForInStep.done (some false,PUnit.unit))else pure (ForInStep.yield (none,PUnit.unit))
    else pure (ForInStep.yield (none,PUnit.unit))):Sem (Option Bool×PUnit))).run X.P w=.ok (if b then none else some false,PUnit.unit) w
 | [],off,n,cs,ds,b,hf,hn,hl,_,_,he=>by
  simp only[mI,beq_iff_eq]at hf;have hc:cs=[]:=List.length_eq_zero_iff.1 (by omega);subst hc;have hd:ds=[]:=List.length_eq_zero_iff.1 (by simpa using hl.symm);subst hd;cases he
  simp
 |f::l,off,n,cs,ds,b,hf,hn,hl,hc,hd,he=>by
  simp only[mI,aV,bne_iff_ne,beq_iff_eq]at hf;obtain⟨⟨h1,h2⟩,h3⟩:=hf;split at h3
  ·rename_i i hi;simp only[aV]at h3;obtain⟨h3,h4⟩:=h3;have hle:=XO h4;obtain⟨r1,r2,e1,e2,rfl⟩:=XN i.size he hl
   obtain⟨x,y,p1,p2,p3⟩:=hG f.type i.size h3 ⟨i,hi,rfl⟩ us vs off (cs.take i.size) (ds.take i.size) r1 (by rw[List.length_take];omega) (by rw[List.length_take];omega)
    (fun j c hj=>hc j c (by
     have:j<i.size:=by have:=(aS.1 hj).1;rw[List.length_take]at this;omega
     rwa [dM this]at hj))
    (fun j c hj=>hd j c (by
     have:j<i.size:=by have:=(aS.1 hj).1;rw[List.length_take]at this;omega
     rwa [dM this]at hj)) e1
   have ih:=XP hG us vs l (off+i.size) n (cs.drop i.size) (ds.drop i.size) r2 h4 (by rw[kX];omega) (by rw[kX,kX];omega)
    (fun j c hj=>by
     rw[iw]at hj;have:=hc _ c hj
     rwa [←iL]at this)
    (fun j c hj=>by
     rw[iw]at hj;have:=hd _ c hj
     rwa [←iL]at this) e2
   rw[←h2]at p1 p2;simp only[List.forIn_cons,Sem.run_bind,ne_eq,h1,not_false_eq_true,if_true,p1,p2,p3,Result.andThen_ok];cases r1
   ·simp
   ·simp only[vt,cF,if_false,Sem.run_pure,Result.andThen_ok,vu];simpa using ih
  ·cases h3
def XQ{D d n:Nat}{t:TypeId}{fs:Array Field}(hG:∀t n,nE X.P d t n=true→(∃i,X.P.info? t=some i∧i.size=n)→Eb X g w D t n)(hu:X.P.underlying t=some (.struct fs))(hs:X.P.stoodInHeld t=false)
  (hf:mI X.P (nE X.P d) fs.toList 0 n=true){us vs:Array Value}{cs ds:List PV}{b:Bool}(hn:cs.length=n)(hl:cs.length=ds.length)(hc:ry X g w us 0 cs)(hd:ry X g w vs 0 ds)(he:dy false cs ds=some b) :
  (Op.equalIn (D+1) t (.agg us) (.agg vs)).run X.P w=.ok b w:=by
 have:=XP hG us vs fs.toList 0 n cs ds b hf (by omega) hl hc hd he;have hp:(program).run X.P w=.ok X.P w:=by simp
 simp only[Op.equalIn,Sem.run_bind,run_underlying hu,Result.andThen_ok,hp,hs,cF,if_false,←Array.forIn_toList,this];cases b<;>simp
theorem XR:∀(d:Nat) {D:Nat},d≤D→∀t n,nE X.P d t n=true→(∃i,X.P.info? t=some i∧i.size=n)→Eb X g w D t n
 |0,D,_,t,n,h,_=>by simp[nE]at h
 |d+1,D,hD,t,n,h,⟨i,hi,hin⟩=>by
  obtain⟨D,rfl⟩:∃k,D=k+1:=⟨D-1,by omega⟩;intro us vs off cs ds b hn hl hc hd he;unfold nE at h;split at h
  ·rename_i k hu;simp only[beq_iff_eq]at h;subst h;have hag:(isAgg t).run X.P w=.ok false w:=by simp[isAgg,run_underlying hu]
   match cs,ds,hn,hl with
   | [c],[c'],_,_=>
    obtain⟨r,hr,hcase⟩:=Ea he;cases hr;obtain⟨u,hu1,ru⟩:=hc 0 c rfl;obtain⟨v,hv1,rv⟩:=hd 0 c' rfl;simp only[gB]at hu1 hv1;refine⟨u,v,by simp[part,hag,hu1],by simp[part,hag,hv1],?_⟩;rcases hcase with⟨h,_⟩|⟨_,q,x,y,rfl,rfl,hb⟩
    ·cases h
    ·cases ru;cases rv;simp[Op.equalIn,run_underlying hu,hb]
  ·rename_i fs hu;simp only[aV,kV]at h;have hag:(isAgg t).run X.P w=.ok true w:=by simp[isAgg,run_underlying hu]
   have hsz:(Go.sizeOf t).run X.P w=.ok n w:=by simp[Go.sizeOf,typeInfo,hi,hin]
   refine⟨.agg (us.extract off (off+n)),.agg (vs.extract off (off+n)),by simp[part,hag,hsz],by simp[part,hag,hsz],?_⟩;refine XQ (d:=d) (n:=n) (fun t n h k=>XR d (by omega) t n h k) hu h.1 h.2 hn (by omega) ?_ ?_ he
   ·intro j c hj;have hjn:j<n:=by rw[←hn];exact(aS.1 hj).1
    obtain⟨u,e1,e2⟩:=hc j c hj;refine⟨u,?_,e2⟩;rw[dN,Fu];have:=(eC.1 e1).1;rw[if_pos (by omega)];exact e1
   ·intro j c hj;have hjn:j<n:=by rw[←hl];exact(aS.1 hj).1
    obtain⟨u,e1,e2⟩:=hd j c hj;refine⟨u,?_,e2⟩;rw[dN,Fu];have:=(eC.1 e1).1;rw[if_pos (by omega)];exact e1
  ·cases h
def aFC{neg:Bool}{m:Nat}{t:TypeId}{x y:Operand}{cs ds:List PV}{us vs:Array Value}{b:Bool}(ht:wJ X.P t m=true)
  (hl:cs.length=m)(hl':ds.length=m)(he:dy false cs ds=some b)(r1:cZ X g w cs us)(r2:cZ X g w ds vs) :
  ((eqGuard (dU neg) t x y (.agg us) (.agg vs)).bind fun _=>binOp (dU neg) t (.agg us) (.agg vs)).run X.P w=.ok (.bool (if neg then !b else b)) w:=by
 unfold wJ at ht;simp only[aV,kV]at ht;obtain⟨⟨h1,h2⟩,h4⟩:=ht;split at h1
 ·rename_i fs hu;unfold nE at h2;rw[hu]at h2;simp only[aV,kV]at h2
  have he':(Op.equal t (.agg us) (.agg vs)).run X.P w=.ok b w:=by
   refine XQ (g:=g) (D:=9999) (d:=5) (n:=m) (fun t n h k=>XR 5 (by omega) t n h k) hu h2.1 h2.2 hl (by omega) ?_ ?_ he
   ·intro j c hc;have:j<us.size:=by rw[←r1.1];exact(aS.1 hc).1
    exact⟨us[j],by simp[this],r1.2 j c _ hc (by simp[this])⟩
   ·intro j c hc;have:j<vs.size:=by rw[←r2.1];exact(aS.1 hc).1
    exact⟨vs[j],by simp[this],r2.2 j c _ hc (by simp[this])⟩
  have hg:(eqGuard (dU neg) t x y (.agg us) (.agg vs)).run X.P w=.ok () w:=by
   cases neg<;>simp[eqGuard,dU,h4]
  rw[Sem.run_bind',hg];cases neg
  ·simp[dU,binOp,he']
  ·simp[dU,binOp,he']
 ·cases h1
end
end Ps
set_option linter.defProp false
namespace Ps
open Go
def gO(X:bF):Prop:=∀a b,X.ty a=X.ty b→a=b
section
variable {X : bF} {g : Gh} {w : World} {n : Dn} {fr : Fr} {a : Act}
def cy(X:bF)(g:Gh)(w:World)(a:Act)(op:Go.Op)(v:PV):Prop:=
 ∀(dst:Option Tmp) (ty:TypeId) (pos:String) (after:Array Edge) (guard:Option (Nat×Bool)),
  ∃u,(execOp a.eval ⟨dst,op,ty,pos,after,guard⟩).run X.P w=.ok (.value u) w∧VR X g w v u
def XS{P:Program}{t:TypeId}(h:qV P t=true):∃d,P.underlying t=some d∧∀ms,d≠.interface ms:=by
 unfold qV at h;split at h
 ·cases h
 ·rename_i d hd hu;exact⟨d,hu,fun ms e=>hd ms e⟩
 ·cases h
def vM{P:Program}{t:TypeId}{k:IntKind}(h:jA P t k=true):P.underlying t=some (.int k):=by
 unfold jA at h;split at h
 ·rename_i j hu;simp only[beq_iff_eq]at h;subst h;exact hu
 ·cases h
def oO{P:Program}{t:TypeId}(h:ia P t=true):P.underlying t=some .string:=by
 unfold ia at h;split at h
 ·assumption
 ·cases h
def Ec{P:Program}{t:TypeId}{sz:Nat}(h:nD P t sz=true):∃e i,P.underlying t=some (.slice e)∧P.info? e=some i∧i.size=sz:=by
 unfold nD at h;split at h
 ·rename_i e hu;split at h
  ·rename_i i hi;exact⟨e,i,hu,hi,by simpa using h⟩
  ·cases h
 ·cases h
def XT{P:Program}{t:TypeId}{len sz:Nat}(h:qU P t len sz=true):∃e i,P.underlying t=some (.array len e)∧P.info? e=some i∧i.size=sz:=by
 unfold qU at h;split at h
 ·rename_i m e hu;simp only[aV,beq_iff_eq]at h;obtain⟨rfl,h⟩:=h;split at h
  ·rename_i i hi;exact⟨e,i,hu,hi,by simpa using h⟩
  ·cases h
 ·cases h
def oP{c:Call}{b:Builtin}(hc:c.callee=.builtin b)(dst:Option Tmp)(ty:TypeId)(pos:String)(after:Array Edge)(guard:Option (Nat×Bool)) :
  ∃consts,execOp a.eval ⟨dst,.call c,ty,pos,after,guard⟩=builtin b c.argTypes ty consts (c.args.map a.eval):=by
 obtain⟨callee,args,tys⟩:=c;simp only at hc;subst hc;exact⟨_,rfl⟩
def sA{c:Call}{x:Operand}(h:c.args.toList=[x]):c.args = #[x]:=by
 have:=congrArg List.toArray h;simpa using this
def vN{c:Call}{x y:Operand}(h:c.args.toList=[x,y]):c.args = #[x,y]:=by
 have:=congrArg List.toArray h;simpa using this
def sB{c:Call}{x:TypeId}(h:c.argTypes.toList=[x]):c.argTypes = #[x]:=by
 have:=congrArg List.toArray h;simpa using this
def zW{c:Call}{x y:TypeId}(h:c.argTypes.toList=[x,y]):c.argTypes = #[x,y]:=by
 have:=congrArg List.toArray h;simpa using this
def aFD(hF:FR X n g w fr a){op:Go.Op}{y:aM}(hc:Am X y op=true):cy X g w a op (ev fr y):=by
 intro dst ty pos after guard;unfold Am at hc;split at hc
 ·exact⟨_,by simp only[execOp];rfl,bZ hF hc⟩
 ·exact⟨_,by simp only[execOp];rfl,bZ hF hc⟩
 ·rename_i c;split at hc
  ·rename_i h1 h2 h3;split at hc
   ·rename_i m e hu;simp only[beq_iff_eq]at hc;subst hc;obtain⟨consts,hb⟩:=oP (a:=a) h1 dst ty pos after guard;rw[hb,sA h2,sB h3];exact⟨_,by simp[builtin,Builtin.len_,run_underlying hu,goInt]<;>rfl,.int _ _⟩
   ·cases hc
  ·cases hc
 ·cases hc
def aFE(hF:FR X n g w fr a){c x y:aM}{c' x' y':Operand}(hc:aY X c' c=true)(hx:aY X x' x=true)(hy:aY X y' y=true){v:PV}
  (hv:aQ fr (.pick c x y)=some v):cy X g w a (.pick c' x' y') v:=by
 intro dst ty pos after guard;have rc:=bZ hF hc;simp only[aQ]at hv;split at hv
 ·rename_i e;cases hv;rw[e]at rc;generalize hu:a.eval c'=u at rc;cases rc;exact⟨_,by simp[execOp,hu,asBool]<;>rfl,bZ hF hx⟩
 ·rename_i e;cases hv;rw[e]at rc;generalize hu:a.eval c'=u at rc;cases rc;exact⟨_,by simp[execOp,hu,asBool]<;>rfl,bZ hF hy⟩
 ·cases hv
def aFF(hF:FR X n g w fr a){x:aM}{x':Operand}(hx:aY X x' x=true){v:PV}(hv:aQ fr (.nilck x)=some v):cy X g w a (.nilCheck x') v:=by
 intro dst ty pos after guard;have r:=bZ hF hx;simp only[aQ]at hv;generalize hu:a.eval x'=u at r;generalize hp:ev fr x=p at r hv;have hr:=r;cases r<;>simp only at hv<;>try (cases hv;done)
 all_goals
  simp only[bU]at hv;subst hv;exact⟨_,by simp[execOp,hu]<;>rfl,hr⟩
def vO{o:BinOp}{t:TypeId}{x y:Operand}{yt:TypeId}{u:Value}(h:((eqGuard o t x y (a.eval x) (a.eval y)).bind fun _=>binOp o t (a.eval x) (a.eval y)).run X.P w=.ok u w)
  (dst:Option Tmp) (ty:TypeId) (pos:String) (after:Array Edge) (guard:Option (Nat×Bool)) :
  (execOp a.eval ⟨dst,.binOp o t x y yt,ty,pos,after,guard⟩).run X.P w=.ok (.value u) w:=by
 have h':(do eqGuard o t x y (a.eval x) (a.eval y);binOp o t (a.eval x) (a.eval y):Sem Value).run X.P w=.ok u w:=h;simp only[execOp,Sem.run_bind];simp only[Sem.run_bind]at h';rw[h'];rfl
def aFG(hF:FR X n g w fr a){o:BinOp}{x y:aM}{x' y':Operand}{t yt:TypeId}(hx:aY X x' x=true)(hy:aY X y' y=true){v:PV}
  (hv:aQ fr (.arith o x y)=some v):cy X g w a (.binOp o t x' y' yt) v:=by
 intro dst ty pos after guard;obtain⟨u,h1,h2⟩:=aFv (t:=t) (x:=x') (y:=y') hv (bZ hF hx) (bZ hF hy);exact⟨u,vO h1 _ _ _ _ _,h2⟩
def aFH(hF:FR X n g w fr a){neg:Bool}{x y:aM}{x' y':Operand}{t yt:TypeId}(ht:ou X.P t=true)(hx:aY X x' x=true)(hy:aY X y' y=true){v:PV}
  (hv:aQ fr (.eqb neg x y)=some v):cy X g w a (.binOp (dU neg) t x' y' yt) v:=by
 intro dst ty pos after guard;have r1:=bZ hF hx;have r2:=bZ hF hy;simp only[aQ]at hv;split at hv
 ·rename_i b c e1 e2;cases hv;rw[e1]at r1;rw[e2]at r2;refine⟨_,vO (u:=.bool (if neg then !(b==c)else b==c)) ?_ _ _ _ _ _,.bool _⟩;generalize hu1:a.eval x'=u1 at r1;generalize hu2:a.eval y'=u2 at r2;cases r1;cases r2;exact aFw ht
 ·cases hv
def aFI(hF:FR X n g w fr a){neg:Bool}{k:NK}{x:aM}{x' y':Operand}{t yt:TypeId}(ht:kZ X.P t k y'=true)(hx:aY X x' x=true){v:PV}
  (hv:aQ fr (.eqn neg k x)=some v):cy X g w a (.binOp (dU neg) t x' y' yt) v:=by
 intro dst ty pos after guard;simp only[aQ]at hv;split at hv
 ·rename_i b e;cases hv;exact⟨_,vO (aFz ht e (bZ hF hx)) _ _ _ _ _,.bool _⟩
 ·cases hv
def aFJ(hF:FR X n g w fr a){neg isb:Bool}{m:Nat}{x y:aM}{x' y':Operand}{t yt:TypeId}(ht:wI X.P t isb m=true)(hx:aY X x' x=true)(hy:aY X y' y=true){v:PV}
  (hv:aQ fr (.eqa neg isb m x y)=some v):cy X g w a (.binOp (dU neg) t x' y' yt) v:=by
 intro dst ty pos after guard;have r1:=bZ hF hx;have r2:=bZ hF hy;simp only[aQ]at hv;split at hv
 ·rename_i cs ds e1 e2;rw[e1]at r1;rw[e2]at r2;split at hv
  ·rename_i hl;split at hv
   ·rename_i b he;cases hv;refine⟨_,vO (u:=.bool (if neg then !b else b)) ?_ _ _ _ _ _,.bool _⟩;generalize hu1:a.eval x'=u1 at r1;generalize hu2:a.eval y'=u2 at r2
    cases r1 with
    |agg _ us hl1 hv1=>
     cases r2 with
     |agg _ vs hl2 hv2=>exact aFB ht hl.1 hl.2 he ⟨hl1,hv1⟩ ⟨hl2,hv2⟩
   ·cases hv
  ·cases hv
 ·cases hv
def aFK(hF:FR X n g w fr a){neg:Bool}{m:Nat}{x y:aM}{x' y':Operand}{t yt:TypeId}(ht:wJ X.P t m=true)(hx:aY X x' x=true)(hy:aY X y' y=true){v:PV}
  (hv:aQ fr (.eqs neg m x y)=some v):cy X g w a (.binOp (dU neg) t x' y' yt) v:=by
 intro dst ty pos after guard;have r1:=bZ hF hx;have r2:=bZ hF hy;simp only[aQ]at hv;split at hv
 ·rename_i cs ds e1 e2;rw[e1]at r1;rw[e2]at r2;split at hv
  ·rename_i hl;split at hv
   ·rename_i b he;cases hv;refine⟨_,vO (u:=.bool (if neg then !b else b)) ?_ _ _ _ _ _,.bool _⟩;generalize hu1:a.eval x'=u1 at r1;generalize hu2:a.eval y'=u2 at r2
    cases r1 with
    |agg _ us hl1 hv1=>
     cases r2 with
     |agg _ vs hl2 hv2=>exact aFC ht hl.1 hl.2 he ⟨hl1,hv1⟩ ⟨hl2,hv2⟩
   ·cases hv
  ·cases hv
 ·cases hv
def aFL(hF:FR X n g w fr a){o:UnOp}{x:aM}{x':Operand}{t:TypeId}(hx:aY X x' x=true){v:PV}(hv:aQ fr (.un o x)=some v):cy X g w a (.unOp o t x') v:=by
 intro dst ty pos after guard;have r:=bZ hF hx;simp only[aQ]at hv;generalize hu:a.eval x'=u at r;generalize hp:ev fr x=p at r hv;unfold unOp at hv;split at hv
 ·cases hv;cases r;exact⟨_,by simp[execOp,hu,Op.unary]<;>rfl,.bool _⟩
 ·cases hv;cases r;exact⟨_,by simp[execOp,hu,Op.unary,Op.intArith]<;>rfl,.int _ _⟩
 ·cases hv;cases r;exact⟨_,by simp[execOp,hu,Op.unary,Op.intBits]<;>rfl,.int _ _⟩
 ·cases hv
def aFM(hF:FR X n g w fr a){k:IntKind}{x:aM}{x':Operand}{s d:TypeId}(hs:(X.P.underlying s).isSome=true)(hd:jA X.P d k=true)(hx:aY X x' x=true){v:PV}
  (hv:aQ fr (.toInt k x)=some v):cy X g w a (.convert s d x') v:=by
 intro dst ty pos after guard;have r:=bZ hF hx;simp only[aQ]at hv;split at hv
 ·rename_i j m e;cases hv;rw[e]at r;generalize hu:a.eval x'=u at r;cases r;obtain⟨ds,hds⟩:=my.1 hs;exact⟨_,by simp[execOp,hu,convert,run_underlying hds,run_underlying (vM hd),Conv.intToInt]<;>rfl,.int _ _⟩
 ·cases hv
def aFN(hF:FR X n g w fr a){x:aM}{x':Operand}{s d:TypeId}(hs:(X.P.underlying s).isSome=true)(hd:ia X.P d=true)(hx:aY X x' x=true){v:PV}
  (hv:aQ fr (.strId x)=some v):cy X g w a (.convert s d x') v:=by
 intro dst ty pos after guard;have r:=bZ hF hx;simp only[aQ]at hv;split at hv
 ·rename_i j e;cases hv;rw[e]at r;generalize hu:a.eval x'=u at r;cases r;obtain⟨ds,hds⟩:=my.1 hs;exact⟨_,by simp[execOp,hu,convert,run_underlying hds,run_underlying (oO hd)]<;>rfl,.str _⟩
 ·cases hv
def aFO(hF:FR X n g w fr a){ag:Bool}{off m f:Nat}{x:aM}{x':Operand}{t:TypeId}
  (ht:(match X.P.underlying t with|some (.struct fs)=>(match fs[f]? with|some g=>g.offset==off&&jX X.P g.type ag m|none=>false)|_=>false)=true)
  (hx:aY X x' x=true){v:PV}(hv:aQ fr (.field ag off m x)=some v):cy X g w a (.field t x' f) v:=by
 intro dst ty pos after guard;have r:=bZ hF hx;simp only[aQ]at hv;split at ht
 ·rename_i fs hu;split at ht
  ·rename_i fd hfd;simp only[aV,beq_iff_eq]at ht;obtain⟨rfl,ht⟩:=ht;split at hv
   ·rename_i cs e;rw[e]at r;generalize hux:a.eval x'=u at r
    cases r with
    |agg _ us hl hv1=>
     obtain⟨u,h1,h2⟩:=XE ht hv hl hv1;exact⟨u,by simp[execOp,hux,Instr.field,run_underlying hu,hfd,asAgg,h1],h2⟩
   ·cases hv
  ·cases ht
 ·cases ht
def aFP(hF:FR X n g w fr a){t:Nat}{x:aM}{x':Operand}(ht:qV X.P (X.ty t)=true)(hx:aY X x' x=true) :
  cy X g w a (.makeInterface (X.ty t) x') (.iface t (ev fr x)):=by
 intro dst ty pos after guard;obtain⟨d,hu,hd⟩:=XS ht;refine⟨.iface (X.ty t) (a.eval x'),?_,.iface _ _ _ (bZ hF hx)⟩;simp only[execOp,Instr.makeInterface,Sem.run_bind,run_underlying hu,Result.andThen_ok];cases d<;>first|rfl|exact(hd _ rfl).elim
def aFQ(hF:FR X n g w fr a){f:Nat}{caps:List aM}{first cs:Array Operand}(h0:first.size=0)(hx:gv X cs.toList caps=true) :
  cy X g w a (.makeFunc (.func (X.fnOf f)) first cs) (.fn f (caps.map (ev fr))):=by
 intro dst ty pos after guard;have e:first = #[]:=Fs h0
 subst e;obtain⟨h1,h2⟩:=zS hF hx;refine⟨.func (.func (X.fnOf f)) #[] (cs.map a.eval),by simp[execOp,Instr.makeFunc],.fn _ _ _ (by simpa using h1) (fun j c u e1 e2=>h2 j c u e1 (by simpa using e2))⟩
def aFR(hF:FR X n g w fr a){f:Nat}{first:List aM}{fs cs:Array Operand}(h0:cs.size=0)(hx:gv X fs.toList first=true) :
  cy X g w a (.makeFunc (.func (X.fnOf f)) fs cs) (.bfn f (first.map (ev fr))):=by
 intro dst ty pos after guard;have e:cs = #[]:=Fs h0;subst e;obtain⟨h1,h2⟩:=zS hF hx;refine⟨.func (.func (X.fnOf f)) (fs.map a.eval) #[],by simp[execOp,Instr.makeFunc],.bfn _ _ _ (by simpa using h1) (fun j c u e1 e2=>h2 j c u e1 (by simpa using e2))⟩
def aFS(hF:FR X n g w fr a){i:Nat}{x:aM}{x':Operand}(hx:aY X x' x=true){v:PV}(hv:aQ fr (.extract i x)=some v):cy X g w a (.extract x' i) v:=by
 intro dst ty pos after guard;have r:=bZ hF hx;simp only[aQ]at hv;split at hv
 ·rename_i vs e;rw[e]at r;generalize hux:a.eval x'=u at r
  cases r with
  |tup _ us hl hv1=>
   have hi:i<us.size:=by rw[←hl];exact(aS.1 hv).1
   exact⟨us[i],by simp[execOp,hux,Instr.extract,hi],hv1 i v _ hv (by simp[hi])⟩
 ·cases hv
def Ed{P:Program}{t:TypeId}{z:PV}(h:lE P t z=true):∃u,(zeroValue t).run P w=.ok u w∧sy u z=true:=by
 unfold lE at h;split at h
 ·rename_i i hi;split at h
  ·rename_i u hu;exact⟨u,by simp[zeroValue,typeInfo,hi,hu],h⟩
  ·cases h
 ·cases h
def aFT(hty:gO X)(hF:FR X n g w fr a){t:Nat}{ok:Bool}{z:PV}{x:aM}{x':Operand}{xt:TypeId}(ht:qV X.P (X.ty t)=true)(hz:lE X.P (X.ty t) z=true)
  (hx:aY X x' x=true){v:PV}(hv:aQ fr (.assert t ok z x)=some v):cy X g w a (.typeAssert x' xt (X.ty t) ok) v:=by
 intro dst ty pos after guard;have r:=bZ hF hx;obtain⟨d,hu,hd⟩:=XS ht;obtain⟨zu,hz1,hz2⟩:=Ed (w:=w) hz
 have fail:∀u:Value,(u=.nilIface∨∃t' v',u=.iface t' v'∧t'≠X.ty t)→ok=true →
   (Instr.typeAssert u xt (X.ty t) ok).run X.P w=.ok (.tuple #[zu,.bool false]) w:=by
  intro u h1 h2;subst h2;rcases h1 with rfl|⟨t',v',rfl,hne⟩
  ·simp only[Instr.typeAssert,Sem.run_bind,run_underlying hu,Result.andThen_ok];cases d<;>first|(exact(hd _ rfl).elim)|simp[hz1]
  ·simp only[Instr.typeAssert,Sem.run_bind,run_underlying hu,Result.andThen_ok];cases d<;>first|(exact(hd _ rfl).elim)|simp[hz1,hne]
 have two:∀{c d:PV} {u1 u2:Value},VR X g w c u1→VR X g w d u2→VR X g w (.tup [c,d]) (.tuple #[u1,u2]):=by
  intro c d u1 u2 r1 r2;refine .tup _ _ rfl (fun j x u e1 e2=>?_)
  match j with
  |0=>simp at e1 e2;subst e1;subst e2;exact r1
  |1=>simp at e1 e2;subst e1;subst e2;exact r2
  |j+2=>simp at e1
 simp only[aQ]at hv;split at hv
 ·rename_i e;rw[e]at r;generalize hux:a.eval x'=u at r;cases r;split at hv
  ·rename_i hok;cases hv;exact⟨_,by simp only[execOp,Sem.run_bind,hux,fail .nilIface (.inl rfl) hok];rfl,two (vL hz2) (.bool _)⟩
  ·cases hv
 ·rename_i t' v0 e;rw[e]at r;generalize hux:a.eval x'=u at r
  cases r with
  |iface _ _ u0 hv0=>
   split at hv
   ·rename_i heq;subst heq;cases hv;cases ok
    ·refine⟨u0,?_,hv0⟩;simp only[execOp,Sem.run_bind,hux,Instr.typeAssert,run_underlying hu,Result.andThen_ok];cases d<;>first|(exact(hd _ rfl).elim)|simp
    ·refine⟨.tuple #[u0,.bool true],?_,two hv0 (.bool _)⟩;simp only[execOp,Sem.run_bind,hux,Instr.typeAssert,run_underlying hu,Result.andThen_ok];cases d<;>first|(exact(hd _ rfl).elim)|simp
   ·rename_i hne;split at hv
    ·rename_i hok;cases hv;exact⟨_,by simp only[execOp,Sem.run_bind,hux,fail _ (.inr ⟨X.ty t',u0,rfl,fun h=>hne (hty _ _ h)⟩) hok];rfl,two (vL hz2) (.bool _)⟩
    ·cases hv
 ·cases hv
end
end Ps
