/- Cells laid over cells; slices' cells. -/
import Derived.Test.YtpjmpaidcidjgaaGreatDoorAbbKt
import Derived.Test.YtpjmpaidcidjgaaGreatDoorChkKt
import Derived.Laws.StructEq
import Derived.Laws.Strings3
import Derived.Laws.BytesArg
import Derived.Laws.Slices
import Derived.Laws.Build
import Derived.Laws.Concat
import Derived.Laws.Cover1
import Derived.Laws.Tables
import Derived.Great.BuildSlice
set_option linter.defProp false
namespace Ps
open Go
section
variable {X : Tie} {g : Gh} {w : World} {n : Dn} {fr : Fr} {a : Act}
def xi{v:Value}{c:PV}(h:oi v c=true):VR X g w c v:=by
 unfold oi at h;split at h
 ·simp only[aI,beq_iff_eq]at h;obtain⟨rfl,rfl⟩:=h;exact .int _ _
 ·simp only[beq_iff_eq]at h;subst h;exact .bool _
 ·simp only[beq_iff_eq]at h;subst h;exact .str _
 ·exact .nilp
 ·simp only[aI,beq_iff_eq]at h;obtain⟨rfl,rfl⟩:=h;exact .nils
 ·exact .nili
 ·exact .nilf
 ·exact .nilm
 ·cases h
theorem mH:∀{vs:List Value} {cs:List PV},jA vs cs=true→cs.length=vs.length∧∀(j:Nat) (c:PV) (u:Value),cs[j]?=some c→vs[j]?=some u→VR X g w c u
 | [],[],_=>⟨rfl,fun j c u h=>by simp at h⟩
 |v::l,c::m,h=>by
  simp only[jA,aI]at h;obtain⟨h1,h2⟩:=mH h.2;refine⟨by simp[h1],fun j d u e1 e2=>?_⟩
  cases j with
  |zero=>simp at e1 e2;subst e1;subst e2;exact xi h.1
  |succ j=>exact h2 j d u (by simpa using e1) (by simpa using e2)
 | [],_::_,h=>by simp[jA]at h
 |_::_,[],h=>by simp[jA]at h
def mJ{v:Value}{c:PV}(h:oj v c=true):VR X g w c v:=by
 unfold oj at h;split at h
 ·rename_i vs cs;obtain⟨h1,h2⟩:=mH (X:=X) (g:=g) (w:=w) h;exact .agg _ _ (by simpa using h1) (fun j c u e1 e2=>h2 j c u e1 (by simpa using e2))
 ·exact xi h
def af(hF:FR X n g w fr a){x:Operand}{y:aG}(h:aK X x y=true):VR X g w (ev fr y) (a.eval x):=by
 unfold aK at h;split at h
 ·simp only[beq_iff_eq]at h;subst h;exact hF.at_ _
 ·exact xi h
 ·simp only[beq_iff_eq]at h;subst h;exact .fn _ _ _ rfl (fun j c u e=>by simp at e)
 ·cases h
theorem sJ(hF:FR X n g w fr a):∀{xs:List Operand} {ys:List aG},eL X xs ys=true →
  (ys.map (ev fr)).length=(xs.map a.eval).length∧∀(j:Nat) (c:PV) (u:Value),(ys.map (ev fr))[j]?=some c→(xs.map a.eval)[j]?=some u→VR X g w c u
 | [],[],_=>⟨rfl,fun j c u h=>by simp at h⟩
 |x::l,y::m,h=>by
  simp only[eL,aI]at h;obtain⟨h1,h2⟩:=sJ hF h.2;refine⟨by simpa using h1,fun j d u e1 e2=>?_⟩
  cases j with
  |zero=>simp at e1 e2;subst e1;subst e2;exact af hF h.1
  |succ j=>exact h2 j d u (by simpa using e1) (by simpa using e2)
 | [],_::_,h=>by simp[eL]at h
 |_::_,[],h=>by simp[eL]at h
def XF{op:BinOp}{t:TypeId}{v1 v2 v:PV}{x y:Operand}{u1 u2:Value}(h:arith op v1 v2=some v)(r1:VR X g w v1 u1)(r2:VR X g w v2 u2) :
    ∃u,((eqGuard op t x y u1 u2).bind fun _=>binOp op t u1 u2).run X.P w=.ok u w∧VR X g w v u:=by
  cases r1<;>cases r2<;>try (simp[arith]at h;done)
  case int.int k a l b=>
    have hg:(eqGuard op t x y (.int k a) (.int l b))=pure ():=by
      simp only[eqGuard];cases op<;>rfl
    rw[hg];simp only[arith]at h;cases op<;>simp only[eN,bg,if_false,if_true]at h
    case shl|shr=>
      simp only[nL]at h;split at h
      · cases h
      · rename_i hb
        cases h;exact⟨_,by simp[Sem.run_bind',binOp,Op.shift,hb],.int _ _⟩
    all_goals
      split at h
      · rename_i hk;subst hk
        simp only[fO]at h
        first
          |(cases h;exact⟨_,by simp only[binOp,Op.intBits,ne_eq,not_true_eq_false,if_false];rfl,.int _ _⟩)
          |(cases h;exact⟨_,by simp[Sem.run_bind',binOp,Op.intCmp]<;>rfl,by first|exact .int _ _|exact .bool _⟩)
          | (split at h
             · cases h
             · rename_i hb;cases h;exact⟨_,by simp[Sem.run_bind',binOp,Op.intDiv,hb]<;>rfl,.int _ _⟩)
      · cases h
  case str.str s1 s2=>
    have hg:(eqGuard op t x y (.string ⟨s1.toArray⟩) (.string ⟨s2.toArray⟩))=pure ():=by
      simp only[eqGuard];cases op<;>rfl
    rw[hg];simp only[arith]at h;cases op<;>simp only[Mb]at h<;>try (cases h;done)
    case add=>
      split at h
      · rename_i hl
        cases h;refine⟨_,?_,.str _⟩;have:=run_string_add_sum (P:=X.P) w (ByteArray.mk s1.toArray) (ByteArray.mk s2.toArray) (by simpa[ByteArray.size]using hl);rw[ByteArray.mk_append_mk]at this;simpa[Sem.run_bind',binOp]using this
      · cases h
    all_goals (cases h;exact⟨_,by simp[Sem.run_bind',binOp,Op.stringOp]<;>rfl,.bool _⟩)
def XG{neg:Bool}{t:TypeId}{x y:Operand}{b c:Bool}(ht:lb X.P t=true) :
  ((eqGuard (cJ neg) t x y (.bool b) (.bool c)).bind fun _=>binOp (cJ neg) t (.bool b) (.bool c)).run X.P w=.ok (.bool (if neg then !(b==c)else b==c)) w:=by
 have hu:X.P.underlying t=some .bool:=by
  unfold lb at ht;split at ht
  ·assumption
  ·cases ht
 have hg:(eqGuard (cJ neg) t x y (.bool b) (.bool c))=pure ():=by
  simp only[eqGuard];cases neg<;>rfl
 rw[hg];cases neg
 ·simpa[Sem.run_bind',cJ]using run_eql_bool (P:=X.P) w t b c hu
 ·simpa[Sem.run_bind',cJ]using run_neq_bool (P:=X.P) w t b c hu
def No:NK→Value→Prop
 |.p,z=>z=.pointer none
 |.s,z=>∃l c,z=.slice none l c
 |.i,z=>z=.nilIface
 |.f,z=>z=.nilFunc
 |.m,z=>z=.map none
def Np(P:Program)(t:TypeId):NK→Prop
 |.p=>∃e,P.underlying t=some (.pointer e)
 |.s=>∃e,P.underlying t=some (.slice e)
 |.i=>∃e,P.underlying t=some (.interface e)
 |.f=>∃e f h,P.underlying t=some (.func e f h)
 |.m=>∃e f,P.underlying t=some (.map e f)
def XH{k:NK}{t:TypeId}{v:PV}{u z:Value}{b:Bool}(d:Nat)(ht:Np X.P t k)(hn:isNil k v=some b)(r:VR X g w v u)(hz:No k z) :
  (Op.equalIn (d+1) t u z).run X.P w=.ok b w:=by
 cases k
 ·obtain⟨e,hu⟩:=ht;subst hz;cases r<;>simp[isNil]at hn<;>subst hn<;>simp[Op.equalIn,run_underlying hu]
 ·obtain⟨e,hu⟩:=ht;obtain⟨l,c,rfl⟩:=hz;cases r<;>simp[isNil]at hn<;>subst hn<;>simp[Op.equalIn,run_underlying hu]
 ·obtain⟨e,hu⟩:=ht;subst hz;cases r<;>simp[isNil]at hn<;>subst hn<;>simp[Op.equalIn,run_underlying hu]
 ·obtain⟨e,f,h,hu⟩:=ht;subst hz;cases r<;>simp[isNil]at hn<;>subst hn<;>simp[Op.equalIn,run_underlying hu]
 ·obtain⟨e,f,hu⟩:=ht;subst hz;cases r<;>simp[isNil]at hn<;>subst hn<;>simp[Op.equalIn,run_underlying hu]
def XI{P:Program}{t:TypeId}{k:NK}{y:Operand}(h:iM P t k y=true):Np P t k∧∃c,y=.const c∧No k c:=by
 cases k<;>cases y<;>try (simp[iM]at h;done)
 all_goals
  rename_i v;cases v<;>try (simp[iM]at h;done)
 ·rename_i p;cases p<;>simp[iM]at h;split at h
  ·rename_i hu;exact⟨⟨_,hu⟩,_,rfl,rfl⟩
  ·cases h
 ·rename_i p l c;cases p<;>simp[iM]at h;split at h
  ·rename_i hu;exact⟨⟨_,hu⟩,_,rfl,⟨l,c,rfl⟩⟩
  ·cases h
 ·simp[iM]at h;split at h
  ·rename_i hu;exact⟨⟨_,hu⟩,_,rfl,rfl⟩
  ·cases h
 ·simp[iM]at h;split at h
  ·rename_i hu;exact⟨⟨_,_,_,hu⟩,_,rfl,rfl⟩
  ·cases h
 ·rename_i p;cases p<;>simp[iM]at h;split at h
  ·rename_i hu;exact⟨⟨_,_,hu⟩,_,rfl,rfl⟩
  ·cases h
def XJ{neg:Bool}{k:NK}{t:TypeId}{x y:Operand}{v:PV}{u:Value}{b:Bool}(ht:iM X.P t k y=true)(hn:isNil k v=some b)(r:VR X g w v u) :
  ((eqGuard (cJ neg) t x y u (a.eval y)).bind fun _=>binOp (cJ neg) t u (a.eval y)).run X.P w=.ok (.bool (if neg then !b else b)) w:=by
 obtain⟨h1,c,rfl,h2⟩:=XI ht;have he:(Op.equal t u c).run X.P w=.ok b w:=XH 9999 h1 hn r h2;show((eqGuard (cJ neg) t x (.const c) u c).bind fun _=>binOp (cJ neg) t u c).run X.P w=_;cases k
 ·cases h2;cases r<;>simp[isNil]at hn<;>cases neg<;>simp[Sem.run_bind',eqGuard,cJ,binOp,he]
 ·obtain⟨l,d,rfl⟩:=h2;cases r<;>simp[isNil]at hn<;>cases neg<;>simp[Sem.run_bind',eqGuard,cJ,binOp,he]
 ·cases h2;cases r<;>simp[isNil]at hn<;>cases neg<;>simp[Sem.run_bind',eqGuard,cJ,binOp,he]
 ·cases h2;cases r<;>simp[isNil]at hn<;>cases neg<;>simp[Sem.run_bind',eqGuard,cJ,binOp,he]
 ·cases h2;cases r<;>simp[isNil]at hn<;>cases neg<;>simp[Sem.run_bind',eqGuard,cJ,binOp,he]
end
end Ps
set_option linter.defProp false
namespace Ps
open Go
section
variable {X : Tie} {g : Gh} {w : World} {n : Dn} {fr : Fr} {a : Act}
def eV(b o k:Nat):(⟨b,o,none⟩:Addr).add k=⟨b,o+k,none⟩:=Addr.add_lit b o k
def mM(X:Tie)(g:Gh)(w:World)(b o:Nat)(cs:List PV):Prop:=
 ∃us:Nat→Value,∀(j:Nat) (c:PV),cs[j]?=some c→w.cell? ⟨b,o+j,none⟩=some (us j)∧VR X g w c (us j)
def mM.drop{b o:Nat}{cs:List PV}(h:mM X g w b o cs)(k:Nat):mM X g w b (o+k) (cs.drop k):=by
 obtain⟨us,h⟩:=h;refine⟨fun j=>us (k+j),fun j c hc=>?_⟩;have:=h (k+j) c (by simpa[gK]using hc);rw[show o+k+j=o+(k+j)by omega];exact this
def xk{t:TypeId}{ag:Bool}{m:Nat}(h:gR X.P t ag m=true) :
  (isAgg t).run X.P w=.ok ag w∧(Go.sizeOf t).run X.P w=.ok m w∧(ag=false→m=1):=by
 simp only[gR,aI,gJ,beq_iff_eq]at h;obtain⟨⟨h1,h2⟩,h3⟩:=h;refine⟨?_,?_,fun e=>by simpa[e]using h3⟩
 ·split at h1
  ·rename_i hu;subst h1;simp[isAgg,run_underlying hu]
  ·rename_i hu;subst h1;simp[isAgg,run_underlying hu]
  ·rename_i d h4 h5 hu;have:ag=false:=by simpa using h1
   subst this;simp only[isAgg,Sem.run_bind,run_underlying hu,Result.andThen];rfl
  ·cases h1
 ·split at h2
  ·rename_i i hi;simp only[beq_iff_eq]at h2;simp[Go.sizeOf,typeInfo,hi,h2]
  ·cases h2
def Nq{ag:Bool}{m:Nat}{cs:List PV}{v:PV}(h:ap ag m cs=some v) :
  m≤cs.length∧((ag=true∧v=.agg (cs.take m))∨(ag=false∧m=1∧cs[0]?=some v)):=by
 unfold ap at h;split at h
 ·refine⟨‹_›,?_⟩;split at h
  ·cases h;exact .inl ⟨by assumption,rfl⟩
  ·rename_i hag;split at h
   ·split at h
    ·cases h;exact .inr ⟨by simpa using hag,by assumption,rfl⟩
    ·cases h
   ·cases h
 ·cases h
def sM{t:TypeId}{ag:Bool}{m b o:Nat}{cs:List PV}{v:PV}(ht:gR X.P t ag m=true)(hp:ap ag m cs=some v)(hc:mM X g w b o cs) :
  ∃u,(loadVar t ⟨b,o,none⟩).run X.P w=.ok u w∧VR X g w v u:=by
 obtain⟨us,hc⟩:=hc;obtain⟨h1,h2,h3⟩:=xk (w:=w) ht;obtain⟨hm,hv⟩:=Nq hp;rcases hv with⟨rfl,rfl⟩|⟨rfl,rfl,h0⟩
 ·refine⟨.agg ((List.range m).map us).toArray,?_,?_⟩
  ·simp only[loadVar,Sem.run_bind,h1,h2,Result.andThen,if_true]
   rw[run_loadCells w ⟨b,o,none⟩ m us (fun j hj=>by
    obtain⟨c,hcj⟩:∃c,cs[j]?=some c:=⟨cs[j],by simp[bK (by omega:j<cs.length)]⟩;rw[eV];exact(hc j c hcj).1)]
   rfl
  ·refine .agg _ _ (by simp[tv hm]) (fun j c u e1 e2=>?_)
   have hj:j<m:=by
    rcases iH j m with h|h
    ·exact h
    ·rw[cr (by simp;omega)]at e1;cases e1
   have e2':us j=u:=by simpa[hj]using e2
   rw[←e2'];exact(hc j c (by rw[cT hj]at e1;exact e1)).2
 ·refine⟨us 0,?_,(hc 0 v h0).2⟩;have:=(hc 0 v h0).1;simp only[eo]at this;simp[loadVar,h1,this]
def sN{cs:List PV}{u:Value}(r:VR X g w (.ref cs) u):∃b o,u=.pointer (some ⟨b,o,none⟩)∧mM X g w b o cs∧o+cs.length≤g.pub b:=by
 cases r with
 |ref cs b o us hpub hc hv=>
  refine⟨b,o,rfl,⟨us,fun j c h=>⟨hc j ?_,hv j c h⟩⟩,hpub⟩;rcases iH j cs.length with h'|h'
  ·exact h'
  ·rw[cr h']at h;cases h
def sO{cs:List PV}{b o:Nat}(h:mM X g w b o cs)(hp:o+cs.length≤g.pub b):VR X g w (.ref cs) (.pointer (some ⟨b,o,none⟩)):=by
 obtain⟨us,h⟩:=h;refine .ref cs b o us hp (fun j hj=>?_) (fun j c hc=>(h j c hc).2);exact(h j cs[j] (by simp[bK hj])).1
def mN{S:St}(hS:SR X g S w){id b:Nat}(hid:g.obj id=some b){cs:List PV}(hcs:S.objs[id]?=some cs):mM X g w b 0 cs:=by
 obtain⟨cs',us,t,h1,⟨fz,h2,_⟩,h3,h4⟩:=hS.obj id b hid;rw[hcs]at h1;cases h1;refine⟨fun j=>us.getD j undef,fun j c hc=>?_⟩
 have hj:j<us.size:=by
  rcases iH j cs.length with h'|h'
  ·omega
  ·rw[cr h']at hc;cases hc
 have e:us[j]?=some (us.getD j undef):=by simp[Array.getD,hj]
 exact⟨by simp[World.cell?,h2,hj,Array.getD],h4 j c _ hc e⟩
def Nr{t:TypeId}{ag:Bool}{m off:Nat}{cs:List PV}{us:Array Value}{v:PV}(ht:gR X.P t ag m=true)(hp:ap ag m (cs.drop off)=some v)
  (hl:cs.length=us.size)(hv:∀(j:Nat)(c:PV)(u:Value),cs[j]?=some c→us[j]?=some u→VR X g w c u) :
  ∃u,(part t us off).run X.P w=.ok u w∧VR X g w v u:=by
 obtain⟨h1,h2,h3⟩:=xk (w:=w) ht;obtain⟨hm,hv'⟩:=Nq hp;simp only[oP]at hm;rcases hv' with⟨rfl,rfl⟩|⟨rfl,rfl,h0⟩
 ·refine⟨.agg (us.extract off (off+m)),by simp[part,h1,h2],.agg _ _ ?_ (fun j c u e1 e2=>?_)⟩
  ·simp;omega
  ·have hj:j<m:=by
    rcases iH j m with h|h
    ·exact h
    ·rw[cr (by simp;omega)]at e1;cases e1
   rw[cT hj,gK]at e1;refine hv (off+j) c u e1 ?_;rw[zD]at e2;split at e2
   ·exact e2
   ·cases e2
 ·rw[gK,eo]at h0
  have hlt:off<us.size:=by
   rw[←hl];rcases iH off cs.length with h|h
   ·exact h
   ·rw[cr h]at h0;cases h0
  refine⟨us[off],by simp[part,h1,hlt],hv off v _ h0 (by simp[hlt])⟩
def kw{v:PV}{u:Value}{y l:Nat}{code:BoundsCode}(r:VR X g w v u)(h:dh y v=some l):(Instr.sliceBound u y code).run X.P w=.ok l w∧l≤y:=by
 cases r<;>try (simp[dh]at h;done)
 simp only[dh]at h;split at h
 ·rename_i hb;cases h;exact⟨run_sliceBound w _ _ _ _ hb.1 hb.2,by omega⟩
 ·cases h
def XP{len c cap l h:Nat}{lo hi:Option PV}(hb:cC len c lo hi=some (l,h))(h1:len≤c)(h2:c≤cap):cC len cap lo hi=some (l,h)∧h≤c:=by
 simp only[cC]at hb ⊢
 have key:∀H,fP len c hi=some H→fP len cap hi=some H∧H≤c:=by
  intro H hH
  cases hi with
  |none=>simp only[fP,ae]at hH ⊢;exact⟨hH,by omega⟩
  |some v=>
   simp only[fP]at hH ⊢;unfold dh at hH ⊢;split at hH
   ·split at hH
    ·rename_i hq;simp only[ae]at hH;rw[if_pos ⟨hq.1,by omega⟩];exact⟨by rw[hH],by omega⟩
    ·cases hH
   ·cases hH
 cases hH:fP len c hi with
 |none=>rw[hH]at hb;cases hb
 |some H=>
  obtain⟨q1,q2⟩:=key H hH;rw[hH]at hb;rw[q1];refine⟨hb,?_⟩;simp only at hb;split at hb
  ·cases hb
  ·split at hb
   ·cases hb;exact q2
   ·cases hb
def kx(hF:FR X n g w fr a){lo hi:Option aG}{lo' hi':Option Operand}(hlo:eK X lo' lo=true)(hhi:eK X hi' hi=true)
  {sl:Bool}{len cap l h:Nat}(hb:cC len cap (bj fr lo) (bj fr hi)=some (l,h))(hlen:len≤cap) :
  (Instr.sliceBounds sl len cap (lo'.map a.eval) (hi'.map a.eval) none).run X.P w=.ok (l,h,cap) w∧l≤h∧h≤cap:=by
 have hH:∃H,(match hi'.map a.eval with|some v=>Instr.sliceBound v cap (if sl then .sliceAcap else .sliceAlen)|none=>pure len).run X.P w=.ok H w∧H≤cap∧fP len cap (bj fr hi)=some H:=by
  cases hi<;>cases hi'<;>simp only[eK]at hhi<;>try (cases hhi;done)
  ·exact⟨len,by simp,hlen,rfl⟩
  ·rename_i y x;have r:=af hF hhi
   cases hbd:dh cap (ev fr y)with
   |none=>simp[cC,fP,bj,hbd]at hb
   |some H=>
    obtain⟨h1,h2⟩:=kw (code:=if sl then .sliceAcap else .sliceAlen) r hbd;exact⟨H,by simpa using h1,h2,hbd⟩
 obtain⟨H,hrun,hHc,heq⟩:=hH;simp only[cC,heq]at hb
 have hL:∃L,(match lo'.map a.eval with|some v=>Instr.sliceBound v H .sliceB|none=>pure 0).run X.P w=.ok L w∧iN H (bj fr lo)=some L:=by
  cases lo<;>cases lo'<;>simp only[eK]at hlo<;>try (cases hlo;done)
  ·exact⟨0,by simp,rfl⟩
  ·rename_i y x;have r:=af hF hlo
   cases hbd:dh H (ev fr y)with
   |none=>simp[iN,bj,hbd]at hb
   |some L=>
    obtain⟨h1,h2⟩:=kw (code:=.sliceB) r hbd;exact⟨L,by simpa using h1,hbd⟩
 obtain⟨L,hrunL,heqL⟩:=hL;simp only[heqL]at hb;split at hb
 ·rename_i hle;cases hb;refine⟨?_,hle,hHc⟩;cases hi'<;>cases lo'<;>simp_all[Instr.sliceBounds]
 ·cases hb
end
end Ps
set_option linter.defProp false
namespace Ps
open Go
section
variable {X : Tie} {g : Gh} {w : World} {n : Dn} {fr : Fr} {a : Act}
def bD(X:Tie)(g:Gh)(w:World)(cs:List PV)(us:Array Value):Prop:=
 cs.length=us.size∧∀(j:Nat) (c:PV) (u:Value),cs[j]?=some c→us[j]?=some u→VR X g w c u
theorem Ns:∀(vs:List Value) (i off:Nat) (cells:Array Value),
  ((vs.zipIdx i).foldl (fun cs (p:Value×Nat)=>cs.setIfInBounds (off+p.2) p.1) cells).size=cells.size ∧
  ∀k,((vs.zipIdx i).foldl (fun cs (p:Value×Nat)=>cs.setIfInBounds (off+p.2) p.1) cells)[k]? =
   if off+i≤k∧k<off+i+vs.length∧k<cells.size then vs[k-off-i]? else cells[k]?
 | [],i,off,cells=>⟨rfl,fun k=>by
   rw[if_neg (by simp;omega)];rfl⟩
 |v::vs,i,off,cells=>by
  simp only[List.zipIdx_cons,tX];obtain⟨h1,h2⟩:=Ns vs (i+1) off (cells.setIfInBounds (off+i) v);refine⟨by rw[h1];simp,fun k=>?_⟩;rw[h2 k];simp only[Array.size_setIfInBounds,bE];by_cases hk:k=off+i
  ·subst hk;rw[if_neg (by omega)];by_cases hs:off+i<cells.size
   ·rw[if_pos (by omega)];simp[hs]
   ·rw[if_neg (by omega)];simp[hs]
  ·rw[fJ (by omega)];by_cases hc:off+(i+1)≤k∧k<off+(i+1)+vs.length∧k<cells.size
   ·rw[if_pos hc,if_pos (by omega)];obtain⟨m,rfl⟩:∃m,k=off+i+1+m:=⟨k-(off+i+1),by omega⟩;rw[show off+i+1+m-off-i=m+1 by omega,show off+i+1+m-off-(i+1)=m by omega];simp
   ·rw[if_neg hc,if_neg (by omega)]
def Nt(cs:List PV)(off:Nat)(vs:List PV)(h:off+vs.length≤cs.length)(k:Nat) :
  (bB cs off vs)[k]?=if off≤k∧k<off+vs.length then vs[k-off]? else cs[k]?:=by
 unfold bB;by_cases h1:k<off
 ·rw[if_neg (by omega),eh,aw (by simp;omega),cT h1]
 ·by_cases h2:k<off+vs.length
  ·rw[if_pos (by omega),eh,eH (by simp;omega)];rw[aw (by simp;omega)];simp[tv (by omega:off≤cs.length)]
  ·rw[if_neg (by omega),eH (by simp;omega)];rw[gK]
   congr 1
   simp only[ak,iG];omega
def Nu(cs:List PV)(off:Nat)(vs:List PV)(h:off+vs.length≤cs.length):(bB cs off vs).length=cs.length:=by
 simp[bB];omega
def xl{cs vs:List PV}{us ws:Array Value}{off:Nat}(h:bD X g w cs us)(k:bD X g w vs ws)(hl:off+vs.length≤cs.length) :
  bD X g w (bB cs off vs) (ws.zipIdx.foldl (fun cs (p:Value×Nat)=>cs.setIfInBounds (off+p.2) p.1) us):=by
 have e:ws.zipIdx.foldl (fun cs (p:Value×Nat)=>cs.setIfInBounds (off+p.2) p.1) us =
   (ws.toList.zipIdx 0).foldl (fun cs (p:Value×Nat)=>cs.setIfInBounds (off+p.2) p.1) us:=by
  rw[←Array.foldl_toList,Array.toList_zipIdx]
 rw[e];obtain⟨h1,h2⟩:=Ns ws.toList 0 off us;refine⟨by rw[Nu _ _ _ hl,h1];exact h.1,fun j c u e1 e2=>?_⟩;rw[h2]at e2;rw[Nt _ _ _ hl]at e1;have hk:=k.1;have hh:=h.1;by_cases hc:off≤j∧j<off+vs.length
 ·rw[if_pos hc]at e1;rw[if_pos (by simp;omega)]at e2;exact k.2 (j-off) c u e1 (by simpa using e2)
 ·rw[if_neg hc]at e1;rw[if_neg (by simp;omega)]at e2;exact h.2 j c u e1 e2
def mO{v:PV}{u:Value}(r:VR X g w v u)(h:v.cells.all PV.one=true):bD X g w v.cells u.cells:=r.cells h
theorem Nv(hF:FR X n g w fr a)(places:List (Nat×Nat))(place:Nat→Option (Nat×Nat))(hpl:∀i,place i=places[i]?):∀(ps:List (Nat×Operand)) (parts:List (Nat×Nat×aG)) (cs cs':List PV) (us:Array Value),
  lc X places ps parts=true→ff fr parts cs=some cs'→bD X g w cs us →
  ∃us',Instr.fill place us (ps.map fun p=>(p.1,a.eval p.2))=some us'∧bD X g w cs' us'
 | [],[],cs,cs',us,_,h,hv=>by cases h;exact⟨us,rfl,hv⟩
 |(i,x)::l,(off,m,y)::r,cs,cs',us,hc,h,hv=>by
  simp only[lc,aI,beq_iff_eq]at hc;obtain⟨⟨h1,h2⟩,h3⟩:=hc;simp only[ff]at h;split at h
  ·rename_i hcond;obtain⟨e1,e2,e3⟩:=hcond;have r0:=mO (af hF h2) e3;have hput:=xl (off:=off) hv r0 (by omega);obtain⟨us',f1,f2⟩:=Nv hF places place hpl l r _ cs' _ h3 h hput;refine⟨us',?_,f2⟩;simp only[cB,Instr.fill,hpl,h1];have:(a.eval x).cells.size=m:=by rw[←r0.1];exact e1
   rw[if_neg (by simp[this,←hv.1,e2])];exact f1
  ·cases h
 | [],_::_,_,_,_,hc,_,_=>by simp[lc]at hc
 |_::_,[],_,_,_,hc,_,_=>by simp[lc]at hc
theorem Nw(hF:FR X n g w fr a)(sz:Nat):∀(ps:List (Nat×Operand)) (parts:List (Nat×Nat×aG)) (cs cs':List PV) (us:Array Value),
  ld X sz ps parts=true→ff fr parts cs=some cs'→bD X g w cs us →
  ∃us',Instr.fill (fun i=>some (i*sz,sz)) us (ps.map fun p=>(p.1,a.eval p.2))=some us'∧bD X g w cs' us'
 | [],[],cs,cs',us,_,h,hv=>by cases h;exact⟨us,rfl,hv⟩
 |(i,x)::l,(off,m,y)::r,cs,cs',us,hc,h,hv=>by
  simp only[ld,aI,beq_iff_eq]at hc;obtain⟨⟨⟨h0,h1⟩,h2⟩,h3⟩:=hc;simp only[ff]at h;split at h
  ·rename_i hcond;obtain⟨e1,e2,e3⟩:=hcond;have r0:=mO (af hF h2) e3;have hput:=xl (off:=off) hv r0 (by omega);obtain⟨us',f1,f2⟩:=Nw hF sz l r _ cs' _ h3 h hput;refine⟨us',?_,f2⟩;simp only[cB,Instr.fill];have:(a.eval x).cells.size=sz:=by rw[←r0.1,←h1];exact e1
   rw[if_neg (by simp[this,←hv.1];omega),←h0];exact f1
  ·cases h
 | [],_::_,_,_,_,hc,_,_=>by simp[ld]at hc
 |_::_,[],_,_,_,hc,_,_=>by simp[ld]at hc
theorem gV{sz:Nat}:∀{es:List PV},(∀e∈es,e.cells.length=sz)→(es.flatMap PV.cells).length=es.length*sz
 | [],_=>by simp
 |e::es,h=>by
  simp only[dB,ak,bE];rw[h e (by simp),gV (fun x hx=>h x (by simp[hx]))];rw[cu];omega
theorem ky{sz:Nat}:∀{es:List PV} {i:Nat} {e:PV},(∀e∈es,e.cells.length=sz)→es[i]?=some e→∀k,k<sz→(es.flatMap PV.cells)[i*sz+k]?=e.cells[k]?
 |x::es,0,e,h,he,k,hk=>by
  simp at he;subst he;simp only[dB];rw[aw (by rw[h _ (by simp)];omega)]
  simp
 |x::es,i+1,e,h,he,k,hk=>by
  simp only[dB];have hx:=h x (by simp);rw[eH (by rw[hx,cu];omega),hx];rw[show(i+1)*sz+k-sz=i*sz+k by rw[cu];omega]
  exact ky (fun y hy=>h y (by simp[hy])) (by simpa using he) k hk
 | [],_,_,_,he,_,_=>by simp at he
theorem Nx{sz:Nat}:∀{es:List PV} (l:Nat),(∀e∈es,e.cells.length=sz)→l≤es.length→(es.drop l).flatMap PV.cells=(es.flatMap PV.cells).drop (l*sz)
 |es,0,_,_=>by simp
 |e::es,l+1,h,hl=>by
  simp only[List.drop_succ_cons,dB];rw[Nx l (fun y hy=>h y (by simp[hy])) (by simpa using hl)];have hx:=h e (by simp);rw[show(l+1)*sz=e.cells.length+l*sz by rw[hx,cu];omega,List.drop_append]
  simp
 | [],l+1,_,hl=>by simp at hl
theorem Ny{sz:Nat}:∀{es:List PV} {i:Nat} {v:PV},(∀e∈es,e.cells.length=sz)→i<es.length→v.cells.length=sz →
  (es.set i v).flatMap PV.cells=bB (es.flatMap PV.cells) (i*sz) v.cells
 |e::es,0,v,h,hi,hv=>by
  have hx:=h e (by simp)
  simp[bB,hv,←hx]
 |e::es,i+1,v,h,hi,hv=>by
  have hx:=h e (by simp);simp only[List.set_cons_succ,dB];rw[Ny (fun y hy=>h y (by simp[hy])) (by simpa using hi) hv];simp only[bB];rw[show(i+1)*sz=e.cells.length+i*sz by rw[hx,cu];omega];rw[List.take_length_add_append,fq,List.drop_length_add_append]
  simp
 | [],_,_,_,hi,_=>by simp at hi
theorem sP:∀{es:List PV},(∀e∈es,e.cells=[e])→es.flatMap PV.cells=es
 | [],_=>rfl
 |e::es,h=>by
  simp only[dB];rw[h e (by simp),sP (fun y hy=>h y (by simp[hy]))];rfl
theorem xn:∀{es:List PV} {s:List UInt8},jE es=some s→es.length=s.length∧(∀e∈es,e.cells=[e]) ∧
  ∃ns:List Int,es=ns.map (PV.int .u8)∧s=ns.map (fun m=>UInt8.ofNat m.toNat)
 | [],s,h=>by cases h;exact⟨rfl,by simp,[],rfl,rfl⟩
 |e::es,s,h=>by
  unfold jE at h;split at h
  ·rename_i heq;cases heq
  ·rename_i m l heq;cases heq;split at h
   ·rename_i r hr;cases h;obtain⟨h1,h2,ns,h3,h4⟩:=xn hr;refine⟨by simp[h1],?_,m::ns,by simp[h3],by simp[h4]⟩;intro x hx;rcases cY.1 hx with rfl|hx
    ·rfl
    ·exact h2 x hx
   ·cases h
  ·cases h
end
end Ps
