/- Walking with a post: what a run comes to fulfils it. -/
import Derived.Test.YtbjefjhmnojdoaaGreatDefs
import Derived.Test.YtbjefjhmnojdoaaGreatWalk
import Derived.Test.YtbjefjhmnojdoaaGreatSimM
import Derived.Test.YtbjefjhmnojdoaaGreatSimJ
import Derived.Test.YtbjefjhmnojdoaaGreatSimOb
namespace Ps
set_option linter.unusedSimpArgs false
open Go
def Ok(x:Option (Fr×St))(Q:Fr→St→Prop):Prop:=∃y,x=some y∧Q y.1 y.2
@[simp]theorem aQp{y:Fr×St}{Q:Fr→St→Prop}:Ok (some y) Q↔Q y.1 y.2:=⟨fun⟨_,h,hq⟩=>by cases h;exact hq,fun h=>⟨y,rfl,h⟩⟩
@[simp]theorem aQq{c:Prop} [Decidable c]{a b:Option (Fr×St)}{Q:Fr→St→Prop}:Ok (if c then a else b) Q↔(c→Ok a Q)∧(¬c→Ok b Q):=by
 by_cases h:c<;>simp[h]
theorem bX{c:Bool}{a b:Option (Fr×St)}{Q:Fr→St→Prop}(h1:c=true→Ok a Q)(h2:c=false→Ok b Q):Ok (br (.bool c) a b) Q:=by cases c<;>first|exact h1 rfl|exact h2 rfl
theorem cV{fr:Fr}{S:St}{Q:Fr→St→Prop}(h:Q fr S):Ok (some (fr,S)) Q:=⟨_,rfl,h⟩
theorem Ok.mono{x:Option (Fr×St)}{Q R:Fr→St→Prop}(h:Ok x Q)(k:∀fr S,Q fr S→R fr S):Ok x R:=by
 obtain⟨y,h1,h2⟩:=h;exact⟨y,h1,k _ _ h2⟩
@[congr]theorem aQr{x y:Option (Fr×St)}{Q:Fr→St→Prop}(h:x=y):Ok x Q=Ok y Q:=by rw[h]
def gM(rs:List mS)(raw:Bool)(S:St)(r:PV)(S2:St)(fr:Fr)(S1:St):Prop:=∃vs,eN fr S1 rs=some vs∧ac raw S S1 (iF vs)=(r,S2)
theorem aW{T:bH}{f:Nat}{c:ai}(hf:T.fn f=some (.code c)){args:List PV}{S S2:St}{r:PV}(ha:args.length=c.params)
  (h:Ok (aJ T [.code c.body] (gV args) S) (gM c.results c.raw S r S2)):aO T f args S=some (r,S2):=by
 obtain⟨y,h1,vs,h2,h3⟩:=h;refine Fp hf ha ?_;rw[h1,od,h2,od,h3]
theorem pZ{S S1 S2:St}{r:PV}{fr:Fr}{raw:Bool}:gM [] raw S r S2 fr S1↔ac raw S S1 (.tup [])=(r,S2):=⟨fun⟨_,h,k⟩=>by cases h;exact k,fun k=>⟨_,rfl,k⟩⟩
@[simp]theorem ul{S S1 S2:St}{r:PV}{fr:Fr}{raw:Bool}{t:Nat}:gM [.tmp t] raw S r S2 fr S1↔ac raw S S1 (fr t)=(r,S2):=⟨fun⟨_,h,k⟩=>by cases h;exact k,fun k=>⟨_,rfl,k⟩⟩
@[simp]theorem aQs{S S1 S2:St}{r:PV}{fr:Fr}{raw:Bool}{t u:Nat}:gM [.tmp t,.tmp u] raw S r S2 fr S1↔ac raw S S1 (.tup [fr t,fr u])=(r,S2):=⟨fun⟨_,h,k⟩=>by cases h;exact k,fun k=>⟨_,rfl,k⟩⟩
@[simp]theorem aQt{S S1 S2:St}{r:PV}{fr:Fr}{raw:Bool}{t u v:Nat}:gM [.tmp t,.tmp u,.tmp v] raw S r S2 fr S1↔ac raw S S1 (.tup [fr t,fr u,fr v])=(r,S2):=⟨fun⟨_,h,k⟩=>by cases h;exact k,fun k=>⟨_,rfl,k⟩⟩
theorem eB{T:bH}{f:Nat}{c:ai}(hf:T.fn f=some (.code c)){args:List PV}{S:St}(ha:args.length=c.params){R:PV→St→Prop}
  (h:Ok (aJ T [.code c.body] (gV args) S) (fun fr S1=>∃vs,eN fr S1 c.results=some vs∧R (ac c.raw S S1 (iF vs)).1 (ac c.raw S S1 (iF vs)).2)) :
  ∃r S2,aO T f args S=some (r,S2)∧R r S2:=by
 obtain⟨y,h1,vs,h2,h3⟩:=h;refine⟨_,_,?_,h3⟩;refine Fp hf ha ?_;rw[h1,od,h2,od]
section
variable {k : IntKind} {a b : Int} {s t : List UInt8}
@[simp]theorem aQu:arith .add (.int k a) (.int k b)=some (.int k (k.wrap (a+b))):=by simp[arith,fk,gH]
@[simp]theorem aQv:arith .sub (.int k a) (.int k b)=some (.int k (k.wrap (a-b))):=by simp[arith,fk,gH]
@[simp]theorem aQw:arith .mul (.int k a) (.int k b)=some (.int k (k.wrap (a*b))):=by simp[arith,fk,gH]
@[simp]theorem aQx:arith .quo (.int k a) (.int k b)=if b=0 then none else some (.int k (k.wrap (a.tdiv b))):=by simp[arith,fk,gH]
@[simp]theorem aQy:arith .rem (.int k a) (.int k b)=if b=0 then none else some (.int k (a.tmod b)):=by simp[arith,fk,gH]
@[simp]theorem aQz:arith .eql (.int k a) (.int k b)=some (.bool (a==b)):=by simp[arith,fk,gH]
@[simp]theorem aQA:arith .neq (.int k a) (.int k b)=some (.bool (a != b)):=by simp[arith,fk,gH]
@[simp]theorem aQB:arith .lss (.int k a) (.int k b)=some (.bool (a<b)):=by simp[arith,fk,gH]
@[simp]theorem aQC:arith .leq (.int k a) (.int k b)=some (.bool (a≤b)):=by simp[arith,fk,gH]
@[simp]theorem aQD:arith .gtr (.int k a) (.int k b)=some (.bool (a>b)):=by simp[arith,fk,gH]
@[simp]theorem aQE:arith .geq (.int k a) (.int k b)=some (.bool (a≥b)):=by simp[arith,fk,gH]
@[simp]theorem aQF:arith .eql (.str s) (.str t)=some (.bool (s==t)):=rfl
@[simp]theorem aQG:arith .neq (.str s) (.str t)=some (.bool !(s==t)):=rfl
@[simp]theorem aQH:arith .lss (.str s) (.str t)=some (.bool (Op.bytesLess s t)):=rfl
@[simp]theorem aQI:arith .leq (.str s) (.str t)=some (.bool (Op.bytesLess s t||s==t)):=rfl
@[simp]theorem aQJ:arith .gtr (.str s) (.str t)=some (.bool !(Op.bytesLess s t||s==t)):=rfl
@[simp]theorem aQK:arith .geq (.str s) (.str t)=some (.bool !(Op.bytesLess s t)):=rfl
@[simp]theorem aQL{b:Bool}:unOp .not (.bool b)=some (.bool !b):=rfl
@[simp]theorem aQM{n:Int}:unOp .xor (.int k n)=some (.int k (k.wrap (BitVec.ofInt k.bits (if k.signed then -1 else k.max) ^^^ BitVec.ofInt k.bits n).toNat)):=rfl
@[simp]theorem aQN{n:Int}:unOp .neg (.int k n)=some (.int k (k.wrap (0-n))):=rfl
end
@[simp]theorem aQO(l:List (List PV))(x:List PV):(l++[x])[l.length]?=some x:=by simp
@[simp]theorem aQP{α:Type}(l:List α)(x y:α):(l++[x]).set l.length y=l++[y]:=by simp
def aP(S S':St):Prop:=∃o t,S'=⟨S.objs++o,S.tips++t⟩
theorem aP.refl(S:St):aP S S:=⟨[],[],by simp⟩
theorem aP.trans{S S1 S2:St}(h:aP S S1)(k:aP S1 S2):aP S S2:=by
 obtain⟨o,t,rfl⟩:=h;obtain⟨o',t',rfl⟩:=k;exact⟨o++o',t++t',by simp⟩
theorem aP.obj{S S1:St}(h:aP S S1)(x:List PV):aP S ⟨S1.objs++[x],S1.tips⟩:=by
 obtain⟨o,t,rfl⟩:=h;exact⟨o++[x],t,by simp⟩
theorem aP.objs{S S1:St}(h:aP S S1)(x:List (List PV)):aP S ⟨S1.objs++x,S1.tips⟩:=by
 obtain⟨o,t,rfl⟩:=h;exact⟨o++x,t,by simp⟩
theorem aP.arrs{S S1:St}(h:aP S S1)(x:List (Nat×Nat)):aP S ⟨S1.objs,S1.tips++x⟩:=by
 obtain⟨o,t,rfl⟩:=h;exact⟨o,t++x,by simp⟩
theorem aP.arr{S S1:St}(h:aP S S1)(x:Nat×Nat):aP S ⟨S1.objs,S1.tips++[x]⟩:=by
 obtain⟨o,t,rfl⟩:=h;exact⟨o,t++[x],by simp⟩
theorem aP.get{S S1:St}(h:aP S S1){i:Nat}{x:List PV}(e:S.objs[i]?=some x):S1.objs[i]?=some x:=by
 obtain⟨o,t,rfl⟩:=h;have:=(aS.1 e).1;simp only;rw[bP this];exact e
theorem aP.tip{S S1:St}(h:aP S S1){i:Nat}{x:Nat×Nat}(e:S.tips[i]?=some x):S1.tips[i]?=some x:=by
 obtain⟨o,t,rfl⟩:=h;have:=(aS.1 e).1;simp only;rw[bP this];exact e
theorem Dw{S S1:St}{r r':PV}(h:aP S S1)(hs:bQ S1.objs S.objs.length eM r=some r'):ac false S S1 r=(r'.frz,S):=by
 obtain⟨o,t,rfl⟩:=h;unfold ac;simp only[cF,if_false]at hs ⊢;rw[hs];simp only[List.take_left,vm,if_true]
theorem zA{objs:List (List PV)}{n:Nat}{r:PV}(h:r.free=true):bQ objs n eM r=some r:=by unfold eM;exact lz h
theorem cN{S S1:St}{r:PV}(h:aP S S1)(hf:r.free=true):ac false S S1 r=(r.frz,S):=Dw h (zA hf)
@[simp]theorem ez{S S1:St}{k:IntKind}{n:Int}(h:aP S S1):ac false S S1 (.int k n)=(.int k n,S):=cN h rfl
@[simp]theorem aD1{S S1:St}{n:Bool}(h:aP S S1):ac false S S1 (.bool n)=(.bool n,S):=cN h rfl
@[simp]theorem aQQ{S S1:St}{n:List UInt8}(h:aP S S1):ac false S S1 (.str n)=(.str n,S):=cN h rfl
@[simp]theorem aQR{S:St}:aP S S:=aP.refl S
theorem iH{T:bH}{f:Nat}{args:List PV}{r:PV}(h:aO T f args bk=some (r,bk))(hf:r.free=true)(hz:r.frz=r):eu T f args=some r:=by
 rw[aML h hf,hz]
@[simp]theorem aQS(k:IntKind)(n:Int):(PV.int k n).frz=.int k n:=rfl
@[simp]theorem aQT(S:St)(cs:List PV):dg S cs=(.ptr S.objs.length 0,⟨S.objs++[cs],S.tips⟩):=rfl
@[simp]theorem aQU(S:St)(sz:Nat)(es:List PV):bp S sz es=(.sl (some (S.tips.length,es.length)) es [],⟨S.objs,S.tips++[(es.length,sz)]⟩):=rfl
@[simp]theorem aQV{S:St}{ag:Bool}{n:Nat}{cs:List PV}:cS S ag n (.ref cs)=ae ag n cs:=rfl
theorem aU{S:St}{ag:Bool}{n id off:Nat}{cs:List PV}(h:S.objs[id]?=some cs):cS S ag n (.ptr id off)=ae ag n (cs.drop off):=by
 simp only[cS,h]
@[simp]theorem uo{ag:Bool}{n off:Nat}{o:List (List PV)}{cs:List PV}{t:List (Nat×Nat)}:cS ⟨o++[cs],t⟩ ag n (.ptr o.length off)=ae ag n (cs.drop off):=aU (by simp)
@[simp]theorem aQW{ag:Bool}{n off:Nat}{o m:List (List PV)}{cs:List PV}{t:List (Nat×Nat)}:cS ⟨o++cs::m,t⟩ ag n (.ptr o.length off)=ae ag n (cs.drop off):=aU (by simp)
@[simp]theorem aQX{ag:Bool}{n off k:Nat}{o m:List (List PV)}{t:List (Nat×Nat)}:cS ⟨o++m,t⟩ ag n (.ptr (o.length+k) off)=match m[k]? with|some cs=>ae ag n (cs.drop off)|none=>none:=by
 simp only[cS];rw[gu (by omega),Zi];cases m[k]?<;>rfl
theorem pb{len cap h:Nat}{k:IntKind}(hh:h≤cap):dP len cap none (some (.int k (h:Int)))=some (0,h):=by
 have h1:(0:Int)≤h∧(h:Int)≤cap:=by omega
 simp only[dP,iR,kD,fE,h1];simp
theorem WU{len cap lo:Nat}{k:IntKind}(hh:lo≤len):dP len cap (some (.int k (lo:Int))) none=some (lo,len):=by
 have h1:(0:Int)≤lo∧(lo:Int)≤len:=by omega
 simp only[dP,iR,kD,fE,h1];simp[hh]
theorem WV{len cap lo h:Nat}{k j:IntKind}(hl:lo≤h)(hh:h≤cap):dP len cap (some (.int k (lo:Int))) (some (.int j (h:Int)))=some (lo,h):=by
 have h1:(0:Int)≤h∧(h:Int)≤cap:=by omega
 have h2:(0:Int)≤lo∧(lo:Int)≤h:=by omega
 simp only[dP,iR,kD,fE,h1,h2];simp[hl]
structure bT(sz:Nat)(v:PV)(es:List PV):Prop where
 len:cz false v=some (.int .i64 es.length)
 get:∀(i:Nat) (h:i<es.length) (k:IntKind),dQ sz v (.int k i)=some (.ref es[i].cells)
theorem ma(sz:Nat):bT sz .nils []:=⟨rfl,fun i h=>by simp at h⟩
theorem oG{sz:Nat}{tip:Option (Nat×Nat)}{es sp:List PV}(h:∀e∈es,e.cells.length=sz):bT sz (.sl tip es sp) es:=
 ⟨rfl,fun i hi k=>by
  have:=h es[i] (jy hi);simp[cJ hi,this]⟩
structure bB(S0:St)(sz:Nat)(S:St)(v:PV)(es:List PV):Prop where
 grows:aP S0 S
 acc:(v=.nils∧es=[])∨∃id,S0.tips.length≤id∧v=.sl (some (id,es.length)) es []∧S.tips[id]?=some (es.length,sz)
theorem ip{S0 S:St}(sz:Nat)(h:aP S0 S):bB S0 sz S .nils []:=⟨h,.inl ⟨rfl,rfl⟩⟩
theorem pe{S0 S:St}(sz:Nat)(es:List PV)(h:aP S0 S):bB S0 sz ⟨S.objs,S.tips++[(es.length,sz)]⟩ (.sl (some (S.tips.length,es.length)) es []) es:=by
 refine⟨h.arr _,.inr ⟨S.tips.length,?_,rfl,by simp⟩⟩;obtain⟨o,t,rfl⟩:=h;simp
theorem bB.objs{S0 S:St}{sz:Nat}{v:PV}{es:List PV}(h:bB S0 sz S v es)(x:List (List PV)):bB S0 sz ⟨S.objs++x,S.tips⟩ v es:=⟨h.grows.objs x,h.acc⟩
theorem bB.arrs{S0 S:St}{sz:Nat}{v:PV}{es:List PV}(h:bB S0 sz S v es)(x:List (Nat×Nat)):bB S0 sz ⟨S.objs,S.tips++x⟩ v es:=by
 refine⟨h.grows.arrs x,?_⟩;rcases h.acc with a|⟨id,a,b,c⟩
 ·exact .inl a
 ·refine .inr ⟨id,a,b,?_⟩;have:=(aS.1 c).1;simp only;rw[bP this];exact c
theorem bB.app{S0 S:St}{sz bytes:Nat}{v:PV}{es:List PV}(h:bB S0 sz S v es)(new:List PV)(hb:(es.length+new.length)*bytes≤140737488355328) :
  ∃v' S',fL sz bytes S v new=some (v',S')∧bB S0 sz S' v' (es++new)∧S'.objs=S.objs:=by
 obtain⟨hg,ha⟩:=h
 cases new with
 |nil=>
  rcases ha with⟨rfl,rfl⟩|⟨id,hid,rfl,h2⟩
  ·exact⟨.nils,S,by simp[fL],⟨hg,.inl ⟨rfl,rfl⟩⟩,rfl⟩
  ·exact⟨_,S,by simp only[fL,List.isEmpty_nil,if_true];rfl,⟨hg,.inr ⟨id,hid,by simp,by simpa using h2⟩⟩,rfl⟩
 |cons n new=>
  rcases ha with⟨rfl,rfl⟩|⟨id,hid,rfl,h2⟩
  ·refine⟨.sl (some (S.tips.length,(n::new).length)) (n::new) [],⟨S.objs,S.tips++[((n::new).length,sz)]⟩,?_,?_,rfl⟩
   ·simp only[fL,AZ,cF,if_false];rw[if_pos (by simpa using hb)];rfl
   ·have:=pe sz (n::new) hg;simpa using this
  ·refine⟨.sl (some (id,es.length+(n::new).length)) (es++n::new) [],{S with tips:=S.tips.set id (es.length+(n::new).length,sz)},?_,?_,rfl⟩
   ·simp only[fL,AZ,cF,if_false];rw[if_pos ⟨h2,hb⟩]
   ·have hlt:=(aS.1 h2).1;refine⟨?_,.inr ⟨id,hid,by simp,?_⟩⟩
    ·obtain⟨o,t,rfl⟩:=hg;refine⟨o,t.set (id-S0.tips.length) (es.length+(n::new).length,sz),?_⟩;simp only[St.mk.injEq,true_and];rw[mF _ _ hid]
    ·simp[hlt]
def bo(v:PV)(es:List PV):PV:=match v with|.nils=>.nils|_=>.sl none es []
theorem bB.fin{S0 S:St}{sz:Nat}{v:PV}{es:List PV}(h:bB S0 sz S v es)(hf:PV.freeL es=true)(hz:PV.frzL es=es):ac false S0 S v=(bo v es,S0):=by
 obtain⟨hg,ha⟩:=h;rcases ha with⟨rfl,rfl⟩|⟨id,_,rfl,_⟩
 ·exact cN hg rfl
 ·rw[cN hg (by simp[PV.free,hf,PV.freeL])];simp[PV.frz,hz,bo,PV.frzL]
theorem bB.len{S0 S:St}{sz:Nat}{v:PV}{es:List PV}(h:bB S0 sz S v es):cz false v=some (.int .i64 es.length):=by
 rcases h.acc with⟨rfl,rfl⟩|⟨id,_,rfl,_⟩<;>rfl
theorem lY{α:Type}(f:α→PV)(h:∀x,(f x).free=true):∀l:List α,PV.freeL (l.map f)=true
 | []=>rfl
 |a::l=>by simp[PV.freeL,h a,lY f h l]
theorem mb{α:Type}(f:α→PV)(h:∀x,(f x).frz=f x):∀l:List α,PV.frzL (l.map f)=l.map f
 | []=>rfl
 |a::l=>by simp[PV.frzL,h a,mb f h l]
def bG(sz:Nat)(v:PV)(es:List PV):Prop:=(v=.nils∧es=[])∨∃tip sp,v=.sl tip es sp∧∀e∈es++sp,e.cells.length=sz
theorem bG.reads{sz:Nat}{v:PV}{es:List PV}(h:bG sz v es):bT sz v es:=by
 rcases h with⟨rfl,rfl⟩|⟨tip,sp,rfl,h⟩
 ·exact ma sz
 ·exact oG (fun e he=>h e (by simp[he]))
theorem bG.len{sz:Nat}{v:PV}{es:List PV}(h:bG sz v es):cz false v=some (.int .i64 es.length):=h.reads.len
theorem oH{sz:Nat}{es:List PV}(h:∀e∈es,e.cells.length=sz):gG sz es=true:=by
 cases es with
 |nil=>rfl
 |cons e es=>simp[h e (by simp)]
theorem bG.appd{sz:Nat}{v:PV}{es:List PV}(h:bG sz v es):gI sz v=some es:=by
 rcases h with⟨rfl,rfl⟩|⟨tip,sp,rfl,h⟩
 ·rfl
 ·rw[aMA,if_pos (oH (fun e he=>h e (by simp[he])))]
theorem bG.lo{sz:Nat}{v:PV}{es:List PV}(h:bG sz v es){lo:Nat}{k:IntKind}(hl:lo≤es.length):∃v',eQ sz (some (.int k (lo:Int))) none v=some v'∧bG sz v' (es.drop lo):=by
 rcases h with⟨rfl,rfl⟩|⟨tip,sp,rfl,h⟩
 ·refine⟨.nils,?_,.inl ⟨rfl,by simp⟩⟩;have:lo=0:=by simpa using hl
  subst this;rw[vn,WU (by omega)]
 ·refine⟨.sl (if es.length=es.length then tip else none) (((es++sp).take es.length).drop lo) ((es++sp).drop es.length),?_,.inr ⟨if es.length=es.length then tip else none,sp,?_,?_⟩⟩
  ·rw[sX,oH h,WU hl];rfl
  ·simp
  ·intro e he;refine h e ?_;rcases dA.1 he with he|he
   ·exact qS _ (iZ he)
   ·exact List.mem_append_right _ he
theorem bG.lh{sz:Nat}{v:PV}{es:List PV}(h:bG sz v es){lo hi:Nat}{k j:IntKind}(hl:lo≤hi)(hh:hi≤es.length):∃v',eQ sz (some (.int k (lo:Int))) (some (.int j (hi:Int))) v=some v'∧bG sz v' ((es.take hi).drop lo):=by
 rcases h with⟨rfl,rfl⟩|⟨tip,sp,rfl,h⟩
 ·refine⟨.nils,?_,.inl ⟨rfl,by simp⟩⟩;have:hi=0:=by simpa using hh
  subst this;rw[vn,WV hl (by omega)]
 ·refine⟨.sl (if hi=es.length then tip else none) (((es++sp).take hi).drop lo) ((es++sp).drop hi),?_,.inr ⟨if hi=es.length then tip else none,(es++sp).drop hi,?_,?_⟩⟩
  ·rw[sX,oH h,WV hl (by omega)];rfl
  ·rw[sm hh]
  ·intro e he;refine h e ?_;rcases dA.1 he with he|he
   ·exact qS _ (jz (iZ he))
   ·exact iZ he
theorem lZ{S0 S:St}{sz:Nat}{v:PV}{es:List PV}(h:bB S0 sz S v es)(hc:∀e∈es,e.cells.length=sz):bG sz (bo v es) es:=by
 rcases h.acc with⟨rfl,rfl⟩|⟨id,_,rfl,_⟩
 ·exact .inl ⟨rfl,rfl⟩
 ·exact .inr ⟨none,[],rfl,by simpa using hc⟩
theorem bB.isSl{S0 S:St}{sz:Nat}{v:PV}{es:List PV}(h:bB S0 sz S v es)(hc:∀e∈es,e.cells.length=sz):bG sz v es:=by
 rcases h.acc with⟨rfl,rfl⟩|⟨id,_,rfl,_⟩
 ·exact .inl ⟨rfl,rfl⟩
 ·exact .inr ⟨_,[],rfl,by simpa using hc⟩
theorem appdS{S:St}{sz:Nat}{v:PV}{es:List PV}(h:gI sz v=some es):eF S sz v=some es:=by
 cases v<;>first|exact h|(simp[gI]at h)
theorem bG.appdS{S:St}{sz:Nat}{v:PV}{es:List PV}(h:bG sz v es):eF S sz v=some es:=Ps.appdS h.appd
end Ps
