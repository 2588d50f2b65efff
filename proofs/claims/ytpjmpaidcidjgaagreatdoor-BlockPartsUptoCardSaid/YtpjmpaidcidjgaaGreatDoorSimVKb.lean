/- Tables: what is told in one is told in a larger one; a function's own law as an entry of a table; a panic that is recovered. -/
import Derived.Test.YtpjmpaidcidjgaaGreatDoorDefsKb
import Derived.Test.YtpjmpaidcidjgaaGreatDoorWalkKb
import Derived.Test.YtpjmpaidcidjgaaGreatDoorSimMKb
import Derived.Test.YtpjmpaidcidjgaaGreatDoorSimJKb
import Derived.Test.YtpjmpaidcidjgaaGreatDoorSimObKb
import Derived.Test.YtpjmpaidcidjgaaGreatDoorSimYKb
import Derived.KernelRfl
namespace Ps
set_option linter.unusedSimpArgs false
open Go
def Ok(x:Option (Fr×St))(Q:Fr→St→Prop):Prop:=∃y,x=some y∧Q y.1 y.2
@[simp]theorem aLp{y:Fr×St}{Q:Fr→St→Prop}:Ok (some y) Q↔Q y.1 y.2:=⟨fun⟨_,h,hq⟩=>by cases h;exact hq,fun h=>⟨y,rfl,h⟩⟩
@[simp]theorem aLq{c:Prop} [Decidable c]{a b:Option (Fr×St)}{Q:Fr→St→Prop}:Ok (if c then a else b) Q↔(c→Ok a Q)∧(¬c→Ok b Q):=by
 by_cases h:c<;>simp[h]
theorem cA{c:Bool}{a b:Option (Fr×St)}{Q:Fr→St→Prop}(h1:c=true→Ok a Q)(h2:c=false→Ok b Q):Ok (br (.bool c) a b) Q:=by cases c<;>first|exact h1 rfl|exact h2 rfl
theorem iD{fr:Fr}{S:St}{Q:Fr→St→Prop}(h:Q fr S):Ok (some (fr,S)) Q:=⟨_,rfl,h⟩
theorem Ok.mono{x:Option (Fr×St)}{Q R:Fr→St→Prop}(h:Ok x Q)(k:∀fr S,Q fr S→R fr S):Ok x R:=by
 obtain⟨y,h1,h2⟩:=h;exact⟨y,h1,k _ _ h2⟩
@[congr]theorem aLr{x y:Option (Fr×St)}{Q:Fr→St→Prop}(h:x=y):Ok x Q=Ok y Q:=by rw[h]
def nJ(rs:List mu)(raw:Bool)(S:St)(r:PV)(S2:St)(fr:Fr)(S1:St):Prop:=∃vs,cF fr S1 rs=some vs∧aW raw S S1 (bb vs)=(r,S2)
theorem bZ{T:aV}{f:Nat}{c:aX}(hf:T.fn f=some (.code c)){args:List PV}{S S2:St}{r:PV}(ha:args.length=c.params)
  (h:Ok (aE T [.code c.body] (bk args) S) (nJ c.results c.raw S r S2)):aN T f args S=some (r,S2):=by
 obtain⟨y,h1,vs,h2,h3⟩:=h;refine VD hf ha ?_;rw[h1,rJ,h2,rJ,h3]
theorem wb{S S1 S2:St}{r:PV}{fr:Fr}{raw:Bool}:nJ [] raw S r S2 fr S1↔aW raw S S1 (.tup [])=(r,S2):=⟨fun⟨_,h,k⟩=>by cases h;exact k,fun k=>⟨_,rfl,k⟩⟩
@[simp]theorem aLs{S S1 S2:St}{r:PV}{fr:Fr}{raw:Bool}{t:Nat}:nJ [.tmp t] raw S r S2 fr S1↔aW raw S S1 (fr t)=(r,S2):=⟨fun⟨_,h,k⟩=>by cases h;exact k,fun k=>⟨_,rfl,k⟩⟩
@[simp]theorem aLt{S S1 S2:St}{r:PV}{fr:Fr}{raw:Bool}{t u:Nat}:nJ [.tmp t,.tmp u] raw S r S2 fr S1↔aW raw S S1 (.tup [fr t,fr u])=(r,S2):=⟨fun⟨_,h,k⟩=>by cases h;exact k,fun k=>⟨_,rfl,k⟩⟩
@[simp]theorem aLu{S S1 S2:St}{r:PV}{fr:Fr}{raw:Bool}{t u v:Nat}:nJ [.tmp t,.tmp u,.tmp v] raw S r S2 fr S1↔aW raw S S1 (.tup [fr t,fr u,fr v])=(r,S2):=⟨fun⟨_,h,k⟩=>by cases h;exact k,fun k=>⟨_,rfl,k⟩⟩
theorem qW{T:aV}{f:Nat}{c:aX}(hf:T.fn f=some (.code c)){args:List PV}{S:St}(ha:args.length=c.params){R:PV→St→Prop}
  (h:Ok (aE T [.code c.body] (bk args) S) (fun fr S1=>∃vs,cF fr S1 c.results=some vs∧R (aW c.raw S S1 (bb vs)).1 (aW c.raw S S1 (bb vs)).2)) :
  ∃r S2,aN T f args S=some (r,S2)∧R r S2:=by
 obtain⟨y,h1,vs,h2,h3⟩:=h;refine⟨_,_,?_,h3⟩;refine VD hf ha ?_;rw[h1,rJ,h2,rJ]
section
variable {k : IntKind} {a b : Int} {s t : List UInt8}
@[simp]theorem aLv:arith .add (.int k a) (.int k b)=some (.int k (k.wrap (a+b))):=by simp[arith,ef,gX]
@[simp]theorem aLw:arith .sub (.int k a) (.int k b)=some (.int k (k.wrap (a-b))):=by simp[arith,ef,gX]
@[simp]theorem aLx:arith .mul (.int k a) (.int k b)=some (.int k (k.wrap (a*b))):=by simp[arith,ef,gX]
@[simp]theorem aLy:arith .quo (.int k a) (.int k b)=if b=0 then none else some (.int k (k.wrap (a.tdiv b))):=by simp[arith,ef,gX]
@[simp]theorem aLz:arith .rem (.int k a) (.int k b)=if b=0 then none else some (.int k (a.tmod b)):=by simp[arith,ef,gX]
@[simp]theorem aLA:arith .eql (.int k a) (.int k b)=some (.bool (a==b)):=by simp[arith,ef,gX]
@[simp]theorem aLB:arith .neq (.int k a) (.int k b)=some (.bool (a != b)):=by simp[arith,ef,gX]
@[simp]theorem aLC:arith .lss (.int k a) (.int k b)=some (.bool (a<b)):=by simp[arith,ef,gX]
@[simp]theorem aLD:arith .leq (.int k a) (.int k b)=some (.bool (a≤b)):=by simp[arith,ef,gX]
@[simp]theorem aLE:arith .gtr (.int k a) (.int k b)=some (.bool (a>b)):=by simp[arith,ef,gX]
@[simp]theorem aLF:arith .geq (.int k a) (.int k b)=some (.bool (a≥b)):=by simp[arith,ef,gX]
@[simp]theorem aLG:arith .eql (.str s) (.str t)=some (.bool (s==t)):=rfl
@[simp]theorem aLH:arith .neq (.str s) (.str t)=some (.bool !(s==t)):=rfl
@[simp]theorem aLI:arith .lss (.str s) (.str t)=some (.bool (Op.bytesLess s t)):=rfl
@[simp]theorem aLJ:arith .leq (.str s) (.str t)=some (.bool (Op.bytesLess s t||s==t)):=rfl
@[simp]theorem aLK:arith .gtr (.str s) (.str t)=some (.bool !(Op.bytesLess s t||s==t)):=rfl
@[simp]theorem aLL:arith .geq (.str s) (.str t)=some (.bool !(Op.bytesLess s t)):=rfl
@[simp]theorem aLM{b:Bool}:unOp .not (.bool b)=some (.bool !b):=rfl
@[simp]theorem aLN{n:Int}:unOp .xor (.int k n)=some (.int k (k.wrap (BitVec.ofInt k.bits (if k.signed then -1 else k.max) ^^^ BitVec.ofInt k.bits n).toNat)):=rfl
@[simp]theorem aLO{n:Int}:unOp .neg (.int k n)=some (.int k (k.wrap (0-n))):=rfl
end
@[simp]theorem aLP(l:List (List PV))(x:List PV):(l++[x])[l.length]?=some x:=by simp
@[simp]theorem aLQ{α:Type}(l:List α)(x y:α):(l++[x]).set l.length y=l++[y]:=by simp
def aL(S S':St):Prop:=∃o t,S'=⟨S.objs++o,S.tips++t⟩
theorem aL.refl(S:St):aL S S:=⟨[],[],by simp⟩
theorem aL.trans{S S1 S2:St}(h:aL S S1)(k:aL S1 S2):aL S S2:=by
 obtain⟨o,t,rfl⟩:=h;obtain⟨o',t',rfl⟩:=k;exact⟨o++o',t++t',by simp⟩
theorem aL.obj{S S1:St}(h:aL S S1)(x:List PV):aL S ⟨S1.objs++[x],S1.tips⟩:=by
 obtain⟨o,t,rfl⟩:=h;exact⟨o++[x],t,by simp⟩
theorem aL.objs{S S1:St}(h:aL S S1)(x:List (List PV)):aL S ⟨S1.objs++x,S1.tips⟩:=by
 obtain⟨o,t,rfl⟩:=h;exact⟨o++x,t,by simp⟩
theorem aL.arrs{S S1:St}(h:aL S S1)(x:List (Nat×Nat)):aL S ⟨S1.objs,S1.tips++x⟩:=by
 obtain⟨o,t,rfl⟩:=h;exact⟨o,t++x,by simp⟩
theorem aL.arr{S S1:St}(h:aL S S1)(x:Nat×Nat):aL S ⟨S1.objs,S1.tips++[x]⟩:=by
 obtain⟨o,t,rfl⟩:=h;exact⟨o,t++[x],by simp⟩
theorem aL.get{S S1:St}(h:aL S S1){i:Nat}{x:List PV}(e:S.objs[i]?=some x):S1.objs[i]?=some x:=by
 obtain⟨o,t,rfl⟩:=h;have:=(aM.1 e).1;simp only;rw[bK this];exact e
theorem aL.tip{S S1:St}(h:aL S S1){i:Nat}{x:Nat×Nat}(e:S.tips[i]?=some x):S1.tips[i]?=some x:=by
 obtain⟨o,t,rfl⟩:=h;have:=(aM.1 e).1;simp only;rw[bK this];exact e
theorem qX{S S1:St}{r r':PV}(h:aL S S1)(hs:ai S1.objs S.objs.length eU r=some r'):aW false S S1 r=(r'.frz,S):=by
 obtain⟨o,t,rfl⟩:=h;unfold aW;simp only[cH,if_false]at hs ⊢;rw[hs];simp only[pZ,EB,if_true]
theorem qY{objs:List (List PV)}{n:Nat}{r:PV}(h:r.free=true):ai objs n eU r=some r:=by unfold eU;exact tx h
theorem cZ{S S1:St}{r:PV}(h:aL S S1)(hf:r.free=true):aW false S S1 r=(r.frz,S):=qX h (qY hf)
@[simp]theorem Sj{S S1:St}{k:IntKind}{n:Int}(h:aL S S1):aW false S S1 (.int k n)=(.int k n,S):=cZ h rfl
@[simp]theorem aCw{S S1:St}{n:Bool}(h:aL S S1):aW false S S1 (.bool n)=(.bool n,S):=cZ h rfl
@[simp]theorem aLR{S S1:St}{n:List UInt8}(h:aL S S1):aW false S S1 (.str n)=(.str n,S):=cZ h rfl
@[simp]theorem aLS{S:St}:aL S S:=aL.refl S
theorem we{T:aV}{f:Nat}{args:List PV}{r:PV}(h:aN T f args cS=some (r,cS))(hf:r.free=true)(hz:r.frz=r):fc T f args=some r:=by
 rw[pP h hf,hz]
@[simp]theorem aLT(k:IntKind)(n:Int):(PV.int k n).frz=.int k n:=rfl
@[simp]theorem aLU(S:St)(cs:List PV):bt S cs=(.ptr S.objs.length 0,⟨S.objs++[cs],S.tips⟩):=rfl
@[simp]theorem aLV(S:St)(sz:Nat)(es:List PV):dy S sz es=(.sl (some (S.tips.length,es.length)) es [],⟨S.objs,S.tips++[(es.length,sz)]⟩):=rfl
@[simp]theorem aLW{S:St}{ag:Bool}{n:Nat}{cs:List PV}:dD S ag n (.ref cs)=bG ag n cs:=rfl
theorem bI{S:St}{ag:Bool}{n id off:Nat}{cs:List PV}(h:S.objs[id]?=some cs):dD S ag n (.ptr id off)=bG ag n (cs.drop off):=by
 simp only[dD,h]
@[simp]theorem Cj{ag:Bool}{n off:Nat}{o:List (List PV)}{cs:List PV}{t:List (Nat×Nat)}:dD ⟨o++[cs],t⟩ ag n (.ptr o.length off)=bG ag n (cs.drop off):=bI (by simp)
@[simp]theorem aLX{ag:Bool}{n off:Nat}{o m:List (List PV)}{cs:List PV}{t:List (Nat×Nat)}:dD ⟨o++cs::m,t⟩ ag n (.ptr o.length off)=bG ag n (cs.drop off):=bI (by simp)
@[simp]theorem aLY{ag:Bool}{n off k:Nat}{o m:List (List PV)}{t:List (Nat×Nat)}:dD ⟨o++m,t⟩ ag n (.ptr (o.length+k) off)=match m[k]? with|some cs=>bG ag n (cs.drop off)|none=>none:=by
 simp only[dD];rw[fU (by omega),Nat.add_sub_cancel_left];cases m[k]?<;>rfl
theorem wg{len cap h:Nat}{k:IntKind}(hh:h≤cap):dE len cap none (some (.int k (h:Int)))=some (0,h):=by
 have h1:(0:Int)≤h∧(h:Int)≤cap:=by omega
 simp only[dE,gr,kH,fF,h1];simp
theorem Sk{len cap lo:Nat}{k:IntKind}(hh:lo≤len):dE len cap (some (.int k (lo:Int))) none=some (lo,len):=by
 have h1:(0:Int)≤lo∧(lo:Int)≤len:=by omega
 simp only[dE,gr,kH,fF,h1];simp[hh]
theorem Sl{len cap lo h:Nat}{k j:IntKind}(hl:lo≤h)(hh:h≤cap):dE len cap (some (.int k (lo:Int))) (some (.int j (h:Int)))=some (lo,h):=by
 have h1:(0:Int)≤h∧(h:Int)≤cap:=by omega
 have h2:(0:Int)≤lo∧(lo:Int)≤h:=by omega
 simp only[dE,gr,kH,fF,h1,h2];simp[hl]
structure cM(sz:Nat)(v:PV)(es:List PV):Prop where
 len:eN false v=some (.int .i64 es.length)
 get:∀(i:Nat) (h:i<es.length) (k:IntKind),ca sz v (.int k i)=some (.ref es[i].cells)
theorem Ck(sz:Nat):cM sz .nils []:=⟨rfl,fun i h=>by simp at h⟩
theorem tT{sz:Nat}{tip:Option (Nat×Nat)}{es sp:List PV}(h:∀e∈es,e.cells.length=sz):cM sz (.sl tip es sp) es:=
 ⟨rfl,fun i hi k=>by
  have:=h es[i] (List.getElem_mem hi);simp[List.getElem?_eq_getElem hi,this]⟩
structure ah(S0:St)(sz:Nat)(S:St)(v:PV)(es:List PV):Prop where
 grows:aL S0 S
 acc:(v=.nils∧es=[])∨∃id,S0.tips.length≤id∧v=.sl (some (id,es.length)) es []∧S.tips[id]?=some (es.length,sz)
theorem lG{S0 S:St}(sz:Nat)(h:aL S0 S):ah S0 sz S .nils []:=⟨h,.inl ⟨rfl,rfl⟩⟩
theorem Cl{S0 S:St}(sz:Nat)(es:List PV)(h:aL S0 S):ah S0 sz ⟨S.objs,S.tips++[(es.length,sz)]⟩ (.sl (some (S.tips.length,es.length)) es []) es:=by
 refine⟨h.arr _,.inr ⟨S.tips.length,?_,rfl,by simp⟩⟩;obtain⟨o,t,rfl⟩:=h;simp
theorem ah.objs{S0 S:St}{sz:Nat}{v:PV}{es:List PV}(h:ah S0 sz S v es)(x:List (List PV)):ah S0 sz ⟨S.objs++x,S.tips⟩ v es:=⟨h.grows.objs x,h.acc⟩
theorem ah.arrs{S0 S:St}{sz:Nat}{v:PV}{es:List PV}(h:ah S0 sz S v es)(x:List (Nat×Nat)):ah S0 sz ⟨S.objs,S.tips++x⟩ v es:=by
 refine⟨h.grows.arrs x,?_⟩;rcases h.acc with a|⟨id,a,b,c⟩
 ·exact .inl a
 ·refine .inr ⟨id,a,b,?_⟩;have:=(aM.1 c).1;simp only;rw[bK this];exact c
theorem ah.app{S0 S:St}{sz bytes:Nat}{v:PV}{es:List PV}(h:ah S0 sz S v es)(new:List PV)(hb:(es.length+new.length)*bytes≤140737488355328) :
  ∃v' S',eh sz bytes S v new=some (v',S')∧ah S0 sz S' v' (es++new)∧S'.objs=S.objs:=by
 obtain⟨hg,ha⟩:=h
 cases new with
 |nil=>
  rcases ha with⟨rfl,rfl⟩|⟨id,hid,rfl,h2⟩
  ·exact⟨.nils,S,by simp[eh],⟨hg,.inl ⟨rfl,rfl⟩⟩,rfl⟩
  ·exact⟨_,S,by simp only[eh,List.isEmpty_nil,if_true];rfl,⟨hg,.inr ⟨id,hid,by simp,by simpa using h2⟩⟩,rfl⟩
 |cons n new=>
  rcases ha with⟨rfl,rfl⟩|⟨id,hid,rfl,h2⟩
  ·refine⟨.sl (some (S.tips.length,(n::new).length)) (n::new) [],⟨S.objs,S.tips++[((n::new).length,sz)]⟩,?_,?_,rfl⟩
   ·simp only[eh,uN,cH,if_false];rw[if_pos (by simpa using hb)];rfl
   ·have:=Cl sz (n::new) hg;simpa using this
  ·refine⟨.sl (some (id,es.length+(n::new).length)) (es++n::new) [],{S with tips:=S.tips.set id (es.length+(n::new).length,sz)},?_,?_,rfl⟩
   ·simp only[eh,uN,cH,if_false];rw[if_pos ⟨h2,hb⟩]
   ·have hlt:=(aM.1 h2).1;refine⟨?_,.inr ⟨id,hid,by simp,?_⟩⟩
    ·obtain⟨o,t,rfl⟩:=hg;refine⟨o,t.set (id-S0.tips.length) (es.length+(n::new).length,sz),?_⟩;simp only[St.mk.injEq,true_and];rw[xu _ _ hid]
    ·simp[hlt]
def jo(v:PV)(es:List PV):PV:=match v with|.nils=>.nils|_=>.sl none es []
theorem ah.fin{S0 S:St}{sz:Nat}{v:PV}{es:List PV}(h:ah S0 sz S v es)(hf:PV.freeL es=true)(hz:PV.frzL es=es):aW false S0 S v=(jo v es,S0):=by
 obtain⟨hg,ha⟩:=h;rcases ha with⟨rfl,rfl⟩|⟨id,_,rfl,_⟩
 ·exact cZ hg rfl
 ·rw[cZ hg (by simp[PV.free,hf,PV.freeL])];simp[PV.frz,hz,jo,PV.frzL]
theorem ah.len{S0 S:St}{sz:Nat}{v:PV}{es:List PV}(h:ah S0 sz S v es):eN false v=some (.int .i64 es.length):=by
 rcases h.acc with⟨rfl,rfl⟩|⟨id,_,rfl,_⟩<;>rfl
theorem jp{α:Type}(f:α→PV)(h:∀x,(f x).free=true):∀l:List α,PV.freeL (l.map f)=true
 | []=>rfl
 |a::l=>by simp[PV.freeL,h a,jp f h l]
theorem jq{α:Type}(f:α→PV)(h:∀x,(f x).frz=f x):∀l:List α,PV.frzL (l.map f)=l.map f
 | []=>rfl
 |a::l=>by simp[PV.frzL,h a,jq f h l]
def ba(sz:Nat)(v:PV)(es:List PV):Prop:=(v=.nils∧es=[])∨∃tip sp,v=.sl tip es sp∧∀e∈es++sp,e.cells.length=sz
theorem ba.reads{sz:Nat}{v:PV}{es:List PV}(h:ba sz v es):cM sz v es:=by
 rcases h with⟨rfl,rfl⟩|⟨tip,sp,rfl,h⟩
 ·exact Ck sz
 ·exact tT (fun e he=>h e (by simp[he]))
theorem ba.len{sz:Nat}{v:PV}{es:List PV}(h:ba sz v es):eN false v=some (.int .i64 es.length):=h.reads.len
theorem qZ{sz:Nat}{es:List PV}(h:∀e∈es,e.cells.length=sz):jF sz es=true:=by
 cases es with
 |nil=>rfl
 |cons e es=>simp[h e (by simp)]
theorem ba.appd{sz:Nat}{v:PV}{es:List PV}(h:ba sz v es):lg sz v=some es:=by
 rcases h with⟨rfl,rfl⟩|⟨tip,sp,rfl,h⟩
 ·rfl
 ·rw[aHV,if_pos (qZ (fun e he=>h e (by simp[he])))]
theorem ba.lo{sz:Nat}{v:PV}{es:List PV}(h:ba sz v es){lo:Nat}{k:IntKind}(hl:lo≤es.length):∃v',eM sz (some (.int k (lo:Int))) none v=some v'∧ba sz v' (es.drop lo):=by
 rcases h with⟨rfl,rfl⟩|⟨tip,sp,rfl,h⟩
 ·refine⟨.nils,?_,.inl ⟨rfl,by simp⟩⟩;have:lo=0:=by simpa using hl
  subst this;rw[uC,Sk (by omega)]
 ·refine⟨.sl (if es.length=es.length then tip else none) (((es++sp).take es.length).drop lo) ((es++sp).drop es.length),?_,.inr ⟨if es.length=es.length then tip else none,sp,?_,?_⟩⟩
  ·rw[uD,qZ h,Sk hl];rfl
  ·simp
  ·intro e he;refine h e ?_;rcases bg.1 he with he|he
   ·exact rQ _ (gN he)
   ·exact List.mem_append_right _ he
theorem ba.lh{sz:Nat}{v:PV}{es:List PV}(h:ba sz v es){lo hi:Nat}{k j:IntKind}(hl:lo≤hi)(hh:hi≤es.length):∃v',eM sz (some (.int k (lo:Int))) (some (.int j (hi:Int))) v=some v'∧ba sz v' ((es.take hi).drop lo):=by
 rcases h with⟨rfl,rfl⟩|⟨tip,sp,rfl,h⟩
 ·refine⟨.nils,?_,.inl ⟨rfl,by simp⟩⟩;have:hi=0:=by simpa using hh
  subst this;rw[uC,Sl hl (by omega)]
 ·refine⟨.sl (if hi=es.length then tip else none) (((es++sp).take hi).drop lo) ((es++sp).drop hi),?_,.inr ⟨if hi=es.length then tip else none,(es++sp).drop hi,?_,?_⟩⟩
  ·rw[uD,qZ h,Sl hl (by omega)];rfl
  ·rw[lO hh]
  ·intro e he;refine h e ?_;rcases bg.1 he with he|he
   ·exact rQ _ (kA (gN he))
   ·exact gN he
theorem ah.isSl{S0 S:St}{sz:Nat}{v:PV}{es:List PV}(h:ah S0 sz S v es)(hc:∀e∈es,e.cells.length=sz):ba sz v es:=by
 rcases h.acc with⟨rfl,rfl⟩|⟨id,_,rfl,_⟩
 ·exact .inl ⟨rfl,rfl⟩
 ·exact .inr ⟨_,[],rfl,by simpa using hc⟩
theorem appdS{S:St}{sz:Nat}{v:PV}{es:List PV}(h:lg sz v=some es):eg S sz v=some es:=by
 cases v<;>first|exact h|(simp[lg]at h)
theorem ba.appdS{S:St}{sz:Nat}{v:PV}{es:List PV}(h:ba sz v es):eg S sz v=some es:=Ps.appdS h.appd
end Ps
set_option linter.defProp false
namespace Ps
set_option linter.unusedVariables false
set_option linter.unusedSimpArgs false
open Go
def dS:aS→Bool
 |.skip=>true
 |.exit _=>true
 |.region ps=>!ps.any (fun p=>iU p.op)
 |.seq a b=>dS a&&dS b
 |.cond _ a b=>dS a&&dS b
 |.block _ b=>dS b
 |.loop b=>dS b
 |.scope b=>dS b
 |.clr _ b=>dS b
 |_=>false
def aFa{T:aV}{call:ac}:∀{k:Nat} {c:aS} {fr fr':Fr} {S S':St} {e:Ex},dS c=true→aY T call k c fr S=some (e,fr',S')→e≠.ret:=by
 intro k
 induction k with
 |zero=>intro c fr fr' S S' e _ h;simp[aY]at h
 |succ k ih=>
  intro c fr fr' S S' e hp h
  cases c with
  |skip=>simp only[aY]at h;cases h;simp
  |ret=>simp[dS]at hp
  |bad=>simp[dS]at hp
  |rng=>simp[dS]at hp
  |exit m=>simp only[aY]at h;cases h;simp
  |region ps=>
   simp only[aY]at h;split at h
   ·cases h;simp
   ·cases h
  |seq a b=>
   simp only[dS,aJ]at hp;simp only[aY]at h;split at h
   ·exact ih hp.2 h
   ·exact ih hp.1 h
  |cond x a b=>
   simp only[dS,aJ]at hp;simp only[aY]at h;split at h
   ·exact ih hp.1 h
   ·exact ih hp.2 h
   ·cases h
  |block m b=>
   simp only[dS]at hp;simp only[aY]at h;split at h
   ·split at h<;>cases h<;>simp
   ·exact ih hp h
  |loop b=>
   have hp':=hp;simp only[dS]at hp;simp only[aY]at h;split at h
   ·exact ih hp' h
   ·exact ih hp h
  |scope b=>simp only[dS]at hp;simp only[aY]at h;exact ih hp h
  |clr l b=>
   simp only[dS]at hp;simp only[aY]at h;split at h
   ·cases h;simp
   ·exact ih hp h
theorem mP{X:Tie}{n:Nat}:∀{pc:aS} {c:Code},dS pc=true→dN X n c pc=true→cg X n c pc=true
 |.skip,c,_,h=>by cases c<;>simp_all[dN,cg]
 |.exit m,c,_,h=>by cases c<;>simp_all[dN,cg]
 |.region ps,c,hp,h=>by
  cases c<;>simp only[dN]at h<;>try (cases h;done)
  simp only[dS,iG]at hp;rw[hp]at h
  simpa using h
 |.seq a b,c,hp,h=>by
  cases c<;>simp only[dN]at h<;>try (cases h;done)
  simp only[dS,aJ]at hp h;simp only[cg,aJ]
  exact⟨mP hp.1 h.1,mP hp.2 h.2⟩
 |.cond x a b,c,hp,h=>by
  cases c<;>simp only[dN]at h<;>try (cases h;done)
  simp only[dS,aJ]at hp h;simp only[cg,aJ]
  exact⟨⟨h.1.1,mP hp.1 h.1.2⟩,mP hp.2 h.2⟩
 |.block m b,c,hp,h=>by
  cases c<;>simp only[dN]at h<;>try (cases h;done)
  simp only[dS]at hp;simp only[aJ]at h;simp only[cg,aJ]
  exact⟨h.1,mP hp h.2⟩
 |.loop b,c,hp,h=>by
  cases c<;>simp only[dN]at h<;>try (cases h;done)
  simp only[dS]at hp;simp only[cg]
  exact mP hp h
 |.scope b,c,hp,h=>by
  cases c<;>simp only[dN]at h<;>try (cases h;done)
  simp only[dS]at hp;simp only[cg]
  exact mP hp h
 |.clr l b,c,hp,h=>by
  simp only[dS]at hp;have h':dN X n c b=true:=by cases c<;>exact h
  have:=mP hp h'
  cases c<;>exact this
 |.ret,_,hp,_=>by simp[dS]at hp
 |.bad,_,hp,_=>by simp[dS]at hp
 |.rng ..,_,hp,_=>by simp[dS]at hp
section
variable {X : Tie} {fr : Fr} {S : St}
def kZ(hX:dR X){c:aS}{Post:Wx→Fr→St→Prop}(hp:dS c=true)(h:Ok (aE X.T [.code c] fr S) (Post .norm)):W X c fr S Post:=by
 obtain⟨⟨fr',S'⟩,h1,h2⟩:=h;obtain⟨k,hk⟩:=lF.1 h1;obtain⟨e,fr1,S1,h3,h4⟩:=wa X.T k c [] fr S _ hk;have hne:=aFa hp h3
 have he:e=.norm∧fr1=fr'∧S1=S':=by
  cases e with
  |norm=>
   obtain⟨i,hi,h5⟩:=h4
   cases i with
   |zero=>simp[ad]at h5
   |succ i=>
    simp only[ad,ap,bc]at h5
    exact⟨rfl,h5.1,h5.2⟩
  |exit m=>obtain⟨K',i,q1,_⟩:=h4;simp[gc]at q1
  |ret=>exact absurd rfl hne
 obtain⟨rfl,rfl,rfl⟩:=he;intro n c' hc g w a hS hF;exact(nV hX.ty hX.meth (xW hX k) hX.mixed n k).1 c' c fr S .norm fr1 S1 g w a _ (mP hp hc) hS hF h3 (fun g' w' a' k1 k2 k3=>⟨g',fr1,S1,k1,k2,k3,h2⟩)
def aFb{T:aV}{l:List aA}{fr fr':Fr}{S S':St}(h:aE T [.ops l] fr S=some (fr',S')):ae T (aN T) l fr S=some (fr',S'):=by
 obtain⟨k,hk⟩:=lF.1 h;obtain⟨fr1,S1,i,h1,h2,h3⟩:=tR T l k [] fr S _ hk
 cases i with
 |zero=>simp[ad]at h3
 |succ i=>
  simp only[ad,ap,bc]at h3;obtain⟨rfl,rfl⟩:=h3;exact kN (Sd T k) h1
def Dy{T:aV}{l:List aA}{fr:Fr}{S:St}{P:Fr→St→Prop}(h:Ok (aE T [.ops l] fr S) P):∃fr' S',ae T (aN T) l fr S=some (fr',S')∧P fr' S':=by
 obtain⟨⟨fr',S'⟩,h1,h2⟩:=h;exact⟨fr',S',aFb h1,h2⟩
def cw{l l2:List aA}{Q:Wo→Prop}(hp:l.all (fun p=>!iU p.op)=true)(h:Ok (aE X.T [.ops l] fr S) (fun fr1 S1=>cT X l2 fr1 S1 Q)):cT X (l++l2) fr S Q:=by
 obtain⟨fr1,S1,h1,h2⟩:=Dy h;exact(tz (fun p hpm=>by have:=List.all_eq_true.1 hp p hpm;simpa using this)).2 ⟨fr1,S1,h1,h2⟩
def eL{l:List aA}{Q:Wo→Prop}(hp:l.all (fun p=>!iU p.op)=true)(h:Ok (aE X.T [.ops l] fr S) (fun fr1 S1=>Q (.norm fr1 S1))):cT X l fr S Q:=by
 have:=cw (X:=X) (l2:=[]) (Q:=Q) hp h
 rwa [eP]at this
def ez{d:Option Nat}{ks:List Nat}{x:aH}{args:List aH}{l:List aA}{Q:Wo→Prop}{f:Nat}{aq:List PV}{R:Rs→Prop}(hc:dG fr x args=some (f,aq))(hs:dc X f aq S R)
  (hr:∀v S',R (.ret v S')→rH fr ks S S'∧cT X l (aP fr d v) S' Q)(hp:∀v S',R (.pan v S')→Q (.pan v S')):cT X (⟨d,.wc ks x args,none⟩::l) fr S Q:=by
 simp only[cT,bu];exact⟨f,aq,R,hc,hs,hr,hp⟩
def bO(hX:dR X){p q:aS}{Post:Wx→Fr→St→Prop}(hp:dS p=true)(h:Ok (aE X.T [.code p] fr S) (fun fr' S'=>W X q fr' S' Post)):W X (.seq p q) fr S Post:=
 bw (kZ hX hp h)
def pO(hX:dR X){p:aS}{Post:Wx→Fr→St→Prop}(hp:dS p=true)(h:Ok (aE X.T [.code p] fr S) (Post .ret)):W X (.seq p .ret) fr S Post:=
 bO hX hp (h.mono fun _ _ k=>kX k)
def fT(hX:dR X){p q r:aS}{x:aH}{Post:Wx→Fr→St→Prop}(hp:dS p=true)
  (h:Ok (aE X.T [.code p] fr S) (fun fr' S'=>∃b,ev fr' x=.bool b∧(b=true→W X q fr' S' (fun e fr2 S2=>match e with|.norm=>W X r fr2 S2 Post|e=>Post e fr2 S2))∧(b=false→W X r fr' S' Post))) :
  W X (.seq (.seq p (.cond x q .skip)) r) fr S Post:=by
 refine bw (bw (kZ hX hp (h.mono fun fr' S' k=>?_)));obtain⟨b,e,k1,k2⟩:=k;refine gC e ?_
 cases b with
 |true=>
  refine(k1 rfl).mono fun e fr2 S2 m=>?_
  cases e<;>exact m
 |false=>exact mO (k2 rfl)
def aFc{it en:Nat}{post:List aA}{l:List (Nat×Nat)}{b:aS}{Post:Fr→St→Prop}{N:Nat}{rem:List (PV×PV)}
  (h:∀k v rem' r,rem.Perm ((k,v)::rem')→Ok (aE X.T [.ops post] (upd (upd fr it (.hnd r)) en (.tup [k,v])) S) (fun fr2 S2=>W X b fr2 S2 (fun e fr3 S3=>e=.norm∧fr3 it=.hnd r∧pN X it en post l b Post N rem' (clrs l fr3) S3))) :
  pN X it en post l b Post (N+1) rem fr S:=by
 intro k v rem' r hp;obtain⟨fr2,S2,h1,h2⟩:=Dy (h k v rem' r hp);exact⟨fr2,S2,h1,h2⟩
end
end Ps
set_option linter.defProp false
namespace Ps
open Go
def Cm(T:aV):List aS→Fr→St→Fr→St→Prop
 | [],fr,S,fr1,S1=>fr1=fr∧S1=S
 |p::ps,fr,S,fr1,S1=>∃fr2 S2,(∀K,aE T (.code p::K) fr S=aE T K fr2 S2)∧Cm T ps fr2 S2 fr1 S1
def aCx{T:aV}{p:aS}{fr fr1:Fr}{S S1:St}(h:∀K,aE T (.code p::K) fr S=aE T K fr1 S1):∃j,aY T (bV T j) j p fr S=some (.norm,fr1,S1):=by
 have dec:∀(K:List Kt) (r:Fr×St),aE T K fr1 S1=some r→∃j e fr3 S3,aY T (bV T j) j p fr S=some (e,fr3,S3)∧tS T j K r e fr3 S3:=by
  intro K r hr;obtain⟨j,hj⟩:=lF.1 ((h K).trans hr);obtain⟨e,fr3,S3,h4,h5⟩:=wa T j p K fr S r hj;exact⟨j,e,fr3,S3,h4,h5⟩
 obtain⟨j,e,fr3,S3,h2,h3⟩:=dec [] (fr1,S1) Ci;refine⟨j,?_⟩
 cases e with
 |norm=>
  obtain⟨i,hi,h4⟩:=h3
  cases i with
  |zero=>simp[ad]at h4
  |succ i=>
   simp only[ad,ap,bc]at h4;obtain⟨rfl,rfl⟩:=h4
   exact h2
 |exit m=>obtain⟨K',i,q1,_⟩:=h3;simp[gc]at q1
 |ret=>
  exfalso;have e1:(fr1,S1)=(fr3,S3):=h3;obtain⟨u,hu⟩:=aCu (fr1 0)
  have hk:aE T [.ops [⟨some 0,.mov (.cst u),none⟩]] fr1 S1=some (upd fr1 0 u,S1):=by
   rw[Sg];simp only[bf,aG,aR,ev,dF,yD,aP];rw[Sf,Ci]
  obtain⟨j',e',fr3',S3',k2,k3⟩:=dec _ _ hk;have b1:=kO (iC T (xy j j')) (xy j j') h2;have b2:=kO (iC T (xz j j')) (xz j j') k2;rw[b1]at b2;cases b2;have e2:(upd fr1 0 u,S1)=(fr3,S3):=k3;rw[←e1]at e2;have e3:=congrFun (congrArg Prod.fst e2) 0;simp[upd]at e3;exact hu e3
def aCy{T:aV}{p:aS}{fr fr3:Fr}{S S3:St}(hg:aE T [.code p] fr S=some (fr3,S3)):∃(j:Nat) (e:Ex),aY T (bV T j) j p fr S=some (e,fr3,S3)∧(e=.norm∨e=.ret):=by
 obtain⟨j3,h3⟩:=lF.1 hg;obtain⟨e,fr6,S6,h4,h5⟩:=wa T j3 p [] fr S _ h3
 cases e with
 |norm=>
  obtain⟨i,hi,h7⟩:=h5
  cases i with
  |zero=>simp[ad]at h7
  |succ i=>
   simp only[ad,ap,bc]at h7;obtain⟨rfl,rfl⟩:=h7
   exact⟨j3,_,h4,.inl rfl⟩
 |exit m=>obtain⟨K',i,q1,_⟩:=h5;simp[gc]at q1
 |ret=>
  have:(fr3,S3)=(fr6,S6):=h5;cases this;exact⟨j3,_,h4,.inr rfl⟩
end Ps
set_option linter.defProp false
namespace Ps
set_option linter.unusedVariables false
set_option linter.unusedSimpArgs false
open Go
def Tie.withT (X:Tie) (T:aV):Tie:={X with T:=T}
section
variable {X : Tie} {T : aV} {g : Gh} {w w' : World}
def VR.tb{v:PV}{u:Value}(r:VR X g w v u):VR (X.withT T) g w v u:=by
 induction r with
 |und u=>exact .und u
 |int k n=>exact .int k n
 |bool b=>exact .bool b
 |str s=>exact .str s
 |nilp=>exact .nilp
 |nils=>exact .nils
 |nili=>exact .nili
 |nilf=>exact .nilf
 |ptr id off b e=>exact .ptr id off b e
 |ref cs b o us hpub hc _ ih=>exact .ref cs b o us hpub hc ih
 |sl tip es sp b o cap sz us hcap hpos hsz hpub hc _ hlink hone ih=>exact .sl tip es sp b o cap sz us hcap hpos hsz hpub hc ih hlink hone
 |slz a=>exact .slz a
 |osl id off len sz cap b e hl hr=>exact .osl id off len sz cap b e hl hr
 |emp a=>exact .emp a
 |iface t v u _ ih=>exact .iface t v u ih
 |agg cs us hl _ ih=>exact .agg cs us hl ih
 |tup cs us hl _ ih=>exact .tup cs us hl ih
 |fn f cs us hl _ ih=>exact .fn f cs us hl ih
 |nilm=>exact .nilm
 |map id b e=>exact .map id b e
 |hnd b=>exact .hnd b
 |bfn f cs us hl _ ih=>exact .bfn f cs us hl ih
def MR.tb{cs:List PV}{es:List MapEntry}(h:MR X g w cs es):MR (X.withT T) g w cs es:=by
 induction h with
 |nil=>exact .nil
 |mark=>exact .mark
 |cons k v cs e es hk hkk hv _ ih=>exact .cons k v cs e es hk.tb hkk hv.tb ih
def SR.tb{S:St}(h:SR X g S w):SR (X.withT T) g S w:=
 ⟨fun id b e=>by obtain⟨cs,us,t,h1,h2,h3,h4⟩:=h.obj id b e;exact⟨cs,us,t,h1,h2,h3,fun j c u e1 e2=>(h4 j c u e1 e2).tb⟩,h.inj,h.objpub,h.arr,h.asz,h.lt,
  ⟨fun id b e=>by obtain⟨cs,es,c,h1,h2,h3,h4⟩:=h.maps.ent id b e;exact⟨cs,es,c,h1,h2,h3,h4.tb⟩,h.maps.inj,h.maps.pub,h.maps.dis,h.maps.fz⟩,h.gl⟩
def bX.tb{cs:List PV}{us:Array Value}(h:bX X g w cs us):bX (X.withT T) g w cs us:=⟨h.1,fun j c u e1 e2=>(h.2 j c u e1 e2).tb⟩
def dA.tb{S:St}{r:PV}{u:Value}(h:dA X g w S r u w'):dA (X.withT T) g w S r u w':=by
 obtain⟨g',h1,h2,h3⟩:=h;exact⟨g',h1,h2.tb,h3.tb⟩
def dc.tb{f:Nat}{args:List PV}{S:St}{R:Rs→Prop}(h:dc X f args S R):dc (X.withT T) f args S R:=by
 intro g w us hS hV;have hS':SR X g S w:=by have:=hS.tb (T:=X.T);exact this
 have hV':bX X g w args us:=by have:=hV.tb (T:=X.T);exact this
 obtain⟨h1,h2⟩:=h g w us hS' hV';refine⟨h1,h2.mono fun e w' he=>?_⟩
 cases e with
 |returned u=>obtain⟨v,S',q1,q2⟩:=he;exact⟨v,S',q1,q2.tb⟩
 |panicked ch=>obtain⟨v,S',u,q0,q1,q2⟩:=he;exact⟨v,S',u,q0,q1,q2.tb⟩
 |outgrown=>exact he.elim
def Uh{f:Nat}{e:List PV→St→Option (PV×St)}(h:∀args S r S',e args S=some (r,S')→dc X f args S (fun q=>q=.ret r S')):rB (X.withT T) f e:=by
 intro args S r S' he g w us hS hV o a next Q hn
 obtain⟨h1,h2⟩:=(h args S r S' he).tb (T:=T) g w us hS hV;have h1':(callFunc ((X.withT T).fnOf f) us).run (X.withT T).P w=.ok (.enter ((X.withT T).fnOf f) us) w:=h1;rw[h1',Oper.upon_enter];refine h2.mono fun e w' he=>?_
 cases e with
 |returned u=>obtain⟨v,S1,q1,q2⟩:=he;cases q1;exact hn u w' q2
 |panicked ch=>obtain⟨v,S1,u,q0,q1,q2⟩:=he;cases q1
 |outgrown=>exact he.elim
def dR.of(hX:dR X)(hm:T.meth=X.T.meth)(h:∀f pf,T.fn f=some pf→az (X.withT T) f pf):dR (X.withT T) where
 ty:=hX.ty
 meth:=fun t m f e u w=>hX.meth t m f (by have:T.meth t m=some f:=e;rw[hm]at this;exact this) u w
 mixed:=hX.mixed
 fns:=h
def aEP(fn:Func)(c:aX):bF (X.withT T) fn c=bF X fn c:=by kernel_rfl
def aEQ(fn:Func)(c:gR):xV (X.withT T) fn c=xV X fn c:=by kernel_rfl
def az.tb{f:Nat}{pf:tA}(h:az X f pf):az (X.withT T) f pf:=by
 cases pf with
 |code c=>
  obtain⟨fn,h1,h2⟩:=h
  exact⟨fn,h1,by rw[aEP];exact h2⟩
 |codeD c=>
  obtain⟨fn,h1,h2⟩:=h
  exact⟨fn,h1,by rw[aEQ];exact h2⟩
 |indexByte=>exact h
 |ext e=>
  intro args r he g w S us hS hV;have hS':SR X g S w:=by have:=hS.tb (T:=X.T);exact this
  have hV':bX X g w args us:=by have:=hV.tb (T:=X.T);exact this
  intro o a next Q hn
  exact h args r he g w S us hS' hV' o a next Q (fun u w' q=>hn u w' q.tb)
 |exs e=>
  intro args S r S' he g w us hS hV;have hS':SR X g S w:=by have:=hS.tb (T:=X.T);exact this
  have hV':bX X g w args us:=by have:=hV.tb (T:=X.T);exact this
  intro o a next Q hn
  exact h args S r S' he g w us hS' hV' o a next Q (fun u w' q=>hn u w' q.tb)
end
structure rF(T T':aV):Prop where
 fn:∀f p,T.fn f=some p→T'.fn f=some p
 meth:T'.meth=T.meth
def Dr{T T':aV}(hm:T'.meth=T.meth)(call:ac)(k:Nat)(c:aS)(fr:Fr)(S:St):aY T' call k c fr S=aY T call k c fr S:=by
 obtain⟨f,m⟩:=T;obtain⟨f',m'⟩:=T';cases hm
 kernel_rfl
def aER{T T':aV}(hm:T'.meth=T.meth)(call:ac)(l:List aA)(fr:Fr)(S:St):ae T' call l fr S=ae T call l fr S:=by
 obtain⟨f,m⟩:=T;obtain⟨f',m'⟩:=T';cases hm
 kernel_rfl
def aES{T T':aV}(hm:T'.meth=T.meth)(call:ac)(k:Nat)(l:List aS)(fr:Fr)(S:St):kz T' call k l fr S=kz T call k l fr S:=by
 obtain⟨f,m⟩:=T;obtain⟨f',m'⟩:=T';cases hm
 kernel_rfl
def aET{T T':aV}(hm:T'.meth=T.meth)(call:ac)(k:Nat)(c:aX)(caps:List PV)(fr:Fr)(S:St):nB T' call k c caps fr S=nB T call k c caps fr S:=by
 obtain⟨f,m⟩:=T;obtain⟨f',m'⟩:=T';cases hm
 kernel_rfl
def Ui{T T':aV}(h:rF T T'){call:ac}{k:Nat}{f:gR}{cf:Nat}{caps:List PV}{fr:Fr}{S:St}{r:Fr×St}(e:lA T call k f cf caps fr S=some r):lA T' call k f cf caps fr S=some r:=by
 unfold lA at e ⊢
 cases hrc:f.rcl with
 |none=>
  rw[hrc]at e;simp only at e ⊢;split at e
  ·rename_i hcf
   have:RD (T'.fn cf)=true:=by
    cases hq:T.fn cf with
    |none=>rw[hq]at hcf;cases hcf
    |some p=>rw[h.fn cf p hq];rw[hq]at hcf;exact hcf
   rw[if_pos this];exact e
  ·cases e
 |some q=>
  obtain⟨cf',c⟩:=q;rw[hrc]at e;simp only at e ⊢;rw[aET h.meth];exact e
def aEU{T T':aV}(h:rF T T'){call:ac}{k:Nat}{f:gR}{fr:Fr}{S:St}{r:Fr×St}(e:lB T call k f fr S=some r):lB T' call k f fr S=some r:=by
 unfold lB at e ⊢;rw[aES h.meth];split at e
 ·cases e
 ·rename_i fr1 S1 hps;split at e
  ·cases e
  ·rename_i fr2 S2 hops;simp only[hps,aER h.meth,hops];split at e
   ·rename_i cf caps ht;split at e
    ·rename_i fr3 S3 hr;simp only[ht,Dr h.meth,hr];exact Ui h e
    ·rename_i fr3 S3 hr;simp only[ht,Dr h.meth,hr];exact Ui h e
    ·cases e
   ·cases e
def aEV{T T':aV}(h:rF T T'):∀k,gZ (bV T k) (bV T' k):=by
 intro k
 induction k with
 |zero=>intro f args S r e;simp[bV]at e
 |succ k ih=>
  intro f args S r e;simp only[bV]at e ⊢
  cases hf:T.fn f with
  |none=>rw[hf]at e;cases e
  |some p=>
   rw[hf]at e;rw[h.fn f p hf]
   cases p with
   |indexByte=>exact e
   |ext x=>exact e
   |exs x=>exact e
   |codeD c=>
    simp only at e ⊢;split at e
    ·rename_i ha;rw[if_pos ha]
     cases hd:lB T (bV T k) k c (bk args) S with
     |none=>rw[hd]at e;cases e
     |some q=>rw[hd]at e;rw[aEU h (Sb ih (aU k) hd)];exact e
    ·cases e
   |code c=>
    simp only at e ⊢;split at e
    ·rename_i ha;rw[if_pos ha]
     cases hd:aY T (bV T k) k c.body (bk args) S with
     |none=>rw[hd]at e;cases e
     |some q=>rw[hd]at e;rw[Dr h.meth,kO ih (aU k) hd];exact e
    ·cases e
def Uj{T T':aV}(h:rF T T'){f:Nat}{args:List PV}{S:St}{r:PV×St}(e:aN T f args S=some r):aN T' f args S=some r:=by
 obtain⟨k,hk⟩:=lx.1 e;exact tQ k (aEV h k _ _ _ _ hk)
def aEW{P:Program}{id:Nat}{ops:Array Oper}{o1 o2:Oper}{rest:Code}{Q:Exit→Act→List Frame→World→Prop}{a:Act}{cs cs':List Frame}{w:World}{u rv:Value}
  (hops:ops = #[o1,o2])(h1:tv o1=true)(hn:(recoverD cs=none∧rv=.nilIface∧cs'=cs)∨recoverD cs=some (rv,cs'))(hg:o2.guard=none)(h2:(execOp (a.put o1.dst rv).eval o2).run P w=.ok (.value u) w)
  (hr:rest.wp P (fun e a' w'=>Q e a' cs' w') ((a.put o1.dst rv).put o2.dst u) w):(Code.seq (.region id ops false) rest).wpS P Q a cs w:=by
 subst hops;refine wpS_seq (wpS_region ?_);obtain⟨r1,g1⟩:=US (P:=P) h1 a.eval w;have w1:∀y,Region.wanted o1 y=true:=fun y=>by simp[Region.wanted,g1]
 have w2:∀y,Region.wanted o2 y=true:=fun y=>by simp[Region.wanted,hg]
 have hl:List.range (#[o1,o2]:Array Oper).size=[0,1]:=rfl;rw[hl];have e0:(#[o1,o2]:Array Oper)[0]?=some o1:=rfl;have e1:(#[o1,o2]:Array Oper)[1]?=some o2:=rfl;rcases hn with⟨hn,rfl,rfl⟩|hn
 ·simp only[wpOpsS,e0,e1,w1,w2,if_true,r1,hn,h2,Oper.upon_value];exact wpS_of_wp hr
 ·simp only[wpOpsS,e0,e1,w1,w2,if_true,r1,hn,h2,Oper.upon_value];exact wpS_of_wp hr
section
variable {X : Tie} {g : Gh} {w : World}
inductive nf:FrameMode→Value→FrameMode→Prop where
 |none:nf .returning .nilIface .returning
 |some (v:Value):nf (.panicking [{v:=v,recovered:=false}]) v (.panicking [{v:=v,recovered:=true}])
def nf.settle{u u':FrameMode}{v:Value}(h:nf u v u'):Go.settle u'=.returning:=by
 cases h<;>rfl
def nf.ne{u u':FrameMode}{v:Value}(h:nf u v u'):u≠.run:=by
 cases h<;>simp
def lL(X:Tie)(rc:aX)(caps:List PV)(pv:PV)(S S':St):Prop:=
 ∃d1 d2 y pb,rc.body=.seq (.region [⟨d1,.mov (.cst .nili),none⟩,⟨d2,.mov y,none⟩]) pb∧caps.length=rc.params ∧
  Ok (aE X.T [.code pb] (aP (aP (bk caps) d1 pv) d2 (ev (aP (bk caps) d1 pv) y)) S) (fun fr4 S4=>∃vs,cF fr4 S4 rc.results=some vs∧S'=(aW rc.raw S S4 (bb vs)).2)
def aEX(hX:dR X){cf:Nat}{c:aX}(hc:qz X cf c=true){caps:List PV}{S S':St}{us:Array Value}{u u':FrameMode}{rv:Value}{pv:PV}(hu:nf u rv u')(hrv:VR X g w pv rv)
  (h:lL X c caps pv S S')(hS:SR X g S w)(hV:bX X g w caps us) :
  (callFunc (X.fnOf cf) us).run X.P w=.ok (.enter (X.fnOf cf) us) w∧CallsD X.P (X.fnOf cf) us u w (fun e v w'=>v=u'∧∃x r,e=.returned x∧dA X g w S' r x w'):=by
 obtain⟨d1',d2',y',pb',hbd,hargs,⟨fr2,S2⟩,hg,vs,hra,hS'⟩:=h;obtain⟨k,e,hcode,he⟩:=aCy hg;unfold qz at hc;split at hc
 rotate_left
 ·cases hc
 rename_i fn hfn;simp only[aJ,bne_iff_ne,ne_eq]at hc;obtain⟨⟨hn,hres⟩,hc⟩:=hc;split at hc
 rotate_left
 ·cases hc
 rename_i id ops b hbody;split at hc
 rotate_left
 ·cases hc
 rename_i d1 d2 y pb hpb;rw[hbd]at hpb;simp only[aS.seq.injEq,aS.region.injEq,nk,aA.mk.injEq,bT.mov.injEq,true_and,and_true]at hpb;obtain⟨⟨rfl,rfl,rfl⟩,rfl⟩:=hpb;split at hc
 rotate_left
 ·cases hc
 rename_i o1 o2 hops;simp only[aJ,beq_iff_eq]at hc;obtain⟨⟨⟨⟨⟨⟨⟨c1,rfl⟩,rfl⟩,c4⟩,c5⟩,c6⟩,c7⟩,c8⟩:=hc;have hops':ops = #[o1,o2]:=by have:=congrArg List.toArray hops;simpa using this
 have hF:=rD (fn:=fn) hV hargs;refine⟨mM hfn hn hbody,?_⟩
 have hd1:∀t,o1.dst=some t→t<c.params+(fn.ntmps-c.params):=by
  intro t ht;rw[ht]at c6;simpa using c6
 have hd2:∀t,o2.dst=some t→t<c.params+(fn.ntmps-c.params):=by
  intro t ht;rw[ht]at c7;simpa using c7
 have hF1:=hF.put (d:=o1.dst) hd1 hrv;obtain⟨u2,hrun2,hv2⟩:=DA hF1 c5 o2.dst o2.type o2.pos o2.after o2.guard;have hF2:=hF1.put (d:=o2.dst) hd2 hv2;refine callsD_of_wpS hfn hbody (fun c₀ cs hm=>aEW (cs':={c₀ with mode:=u'}::cs) hops' c1 ?_ (by simpa using c4) hrun2 ?_)
 ·cases hu with
  |none=>exact .inl ⟨UT hm,rfl,by cases c₀;cases hm;rfl⟩
  |some v=>exact .inr (by simp[recoverD,hm])
 refine(nV hX.ty hX.meth (xW hX k) hX.mixed ⟨c.params+(fn.ntmps-c.params),[]⟩ k).1 b pb' _ S e fr2 S2 g w _ _ c8 hS hF2 hcode (fun g1 w1 a1 hle hS1 hF3=>?_);obtain⟨x,q1,q2⟩:=rC hS1 hF3 hres hra;have hst:=pG (raw:=c.raw) hS hle hS1 q2;rw[←hS']at hst;rcases he with rfl|rfl
 ·exact⟨hF3.defers,u',rfl,x,q1,rfl,x,_,rfl,hst⟩
 ·exact⟨hF3.defers,u',rfl,x,q1,rfl,x,_,rfl,hst⟩
def ng(X:Tie)(n:Nat)(f:gR):Code→List aS→Bool
 |.seq a b,p::ps=>cg X n a p&&ng X n f b ps
 |.seq (.region _ ops false) b,[]=>(match ops.toList with
  | [o1,o2]=>eK X n ops o1 f.clo&&f.clo.dst==some f.t&&(match o2.op with
   |.defer c=>(match c.callee with|.value (.tmp t)=>t==f.t&&c.args.size==0|_=>false)
   |_=>false)&&o2.dst==none&&o2.guard==none
  |_=>false)&&dN X n b f.rest
 |_,_=>false
def pJ(X:Tie)(fn:Func)(c:gR):Bool:=
 (match fn.body with|some b=>ng X (c.params+(fn.ntmps-c.params)) c b c.pre|none=>false)&&fn.name != "runtime.NumGoroutine" && gi X fn.results.toList c.results&&(match c.rcl with|none=>false|some (cf,r)=>qz X cf r)
def aEY(hX:dR X){f:gR}{n:Nat}{Q:Exit→Act→World→Prop}{fr1 fr2:Fr}{S1 S2:St}{cf:Nat}{caps:List PV}{Post:Wx→Fr→St→Prop}
  (ho:ae X.T (aN X.T) [f.clo] fr1 S1=some (fr2,S2))(ht:fr2 f.t=.fn cf caps)(hr:W X f.rest fr2 S2 Post) :
  ∀(ps:List aS) (c:Code) (g:Gh) (w:World) (fr:Fr) (S:St) (a:Act),ng X n f c ps=true→SR X g S w→FR X ⟨n,[]⟩ g w fr a→Cm X.T ps fr S fr1 S1 →
  (∀g3 w3 us,Le g w g3 w3→bX X g3 w3 caps us→∀e a' w',kW X ⟨n,[⟨.fn (.func (X.fnOf cf)) us,#[]⟩]⟩ g3 w3 Post e a' w'→Q e a' w')→c.wp X.P Q a w:=by
 intro ps
 induction ps with
 |nil=>
  intro c g w fr S a hc hS hF hp hQ;obtain⟨rfl,rfl⟩:=hp;cases c<;>try (simp[ng]at hc;done)
  rename_i x b;cases x<;>try (simp[ng]at hc;done)
  rename_i id ops draw;cases draw<;>try (simp[ng]at hc;done)
  simp only[ng]at hc;rw[aJ]at hc;obtain⟨hc,hb⟩:=hc;split at hc
  ·rename_i o1 o2 hops;simp only[aJ,beq_iff_eq]at hc;obtain⟨⟨⟨⟨c1,c2⟩,c3⟩,c4⟩,c5⟩:=hc;refine wp_seq (wp_region_list ?_);rw[hops]
   have hone:=mH hX.ty hX.meth (qT hX) (Q:=Exit.then (b.wp X.P Q) Q) c1 hS hF ho (K:=wpList X.P ops (Exit.then (b.wp X.P Q) Q) [o2]) (fun g1 w1 a1 fr' S' hle hS1 hF1 hl=>by
    cases hl;have hwant:Region.wanted o2 (yielded ops a1.tmps)=true:=by simp[Region.wanted,c5]
    simp only[wpList,hwant,if_true];refine .inl ?_;obtain⟨dst,op,ty,pos,after,guard⟩:=o2;simp only at c3 c4;subst c4;cases op<;>simp only at c3<;>try (cases c3;done)
    rename_i cl;split at c3
    ·rename_i t hcal;simp only[aJ,beq_iff_eq]at c3;obtain⟨rfl,c6⟩:=c3;have hv:=hF1.at_ f.t;rw[ht]at hv;generalize hu:a1.tmps.getD f.t undef=u at hv
     cases hv with
     |fn _ _ us hl hvs=>
      have hargs:cl.args = #[]:=uH c6
      have hrun:(execOp a1.eval ⟨none,.defer cl,ty,pos,after,guard⟩).run X.P w1=.ok (.defer ⟨.fn (.func (X.fnOf cf)) us,#[]⟩) w1:=by
       have he:a1.eval (.tmp f.t)=.func (.func (X.fnOf cf)) #[] us:=hu;simp[execOp,resolve,hcal,hargs,he,Deferred.ofValue]
      unfold Oper.wp;rw[hrun,Oper.upon_defer];refine wp_mono (hr ⟨n,[⟨.fn (.func (X.fnOf cf)) us,#[]⟩]⟩ b hb g1 w1 _ hS1 ⟨hF1.size,hF1.at_,by simp[Act.put,hF1.defers]⟩) fun e a' w' he=>?_;exact hQ g1 w1 us hle ⟨hl,hvs⟩ e a' w' he
    ·cases c3)
   simp only[wpList];split
   ·rename_i hw;rw[if_pos hw]at hone;exact .inl hone
   ·rename_i hw;rw[if_neg hw]at hone;exact hone
  ·cases hc
 |cons p ps ihp=>
  intro c g w fr S a hc hS hF hp hQ;cases c<;>simp only[ng]at hc<;>try (cases hc;done)
  rename_i x b;rw[aJ]at hc;obtain⟨fr2',S2',hp1,hp2⟩:=hp;obtain⟨j,hj⟩:=aCx hp1;refine wp_seq ((nV hX.ty hX.meth (xW hX j) hX.mixed ⟨n,[]⟩ j).1 x p fr S .norm fr2' S2' g w a _ hc.1 hS hF hj (fun g1 w1 a1 hle hS1 hF1=>?_));exact ihp b g1 w1 fr2' S2' a1 hc.2 hS1 hF1 hp2 (fun g3 w3 us hle3=>hQ g3 w3 us (hle.trans hle3))
def Uk(hX:dR X){f:Nat}{fn:Func}{c:gR}(hf:X.P.funcs[X.fnOf f]?=some fn)(hc:pJ X fn c=true){args:List PV}{S S1 S2:St}{fr1 fr2:Fr}{cf:Nat}{rc:aX}{caps:List PV}(ha:args.length=c.params)
  (hrc:c.rcl=some (cf,rc))(hpre:Cm X.T c.pre (bk args) S fr1 S1)(ho:ae X.T (aN X.T) [c.clo] fr1 S1=some (fr2,S2))(ht:fr2 c.t=.fn cf caps){R:Rs→Prop}
  (h:W X c.rest fr2 S2 (fun e fr3 S3=>match e with
   |.exit _=>False
   |.pan v=>∃S4 vs,lL X rc caps v S3 S4∧cF fr3 S4 c.results=some vs∧R (.ret (aW c.raw S S4 (bb vs)).1 (aW c.raw S S4 (bb vs)).2)
   |_=>∃S4 vs,lL X rc caps .nili S3 S4∧cF fr3 S4 c.results=some vs∧R (.ret (aW c.raw S S4 (bb vs)).1 (aW c.raw S S4 (bb vs)).2))):dc X f args S R:=by
 intro g w us hS hV;simp only[pJ,aJ,bne_iff_ne,ne_eq]at hc;obtain⟨⟨⟨hb,hname⟩,hr⟩,hcl⟩:=hc;rw[hrc]at hcl;simp only at hcl;split at hb
 rotate_left
 ·cases hb
 rename_i body hbody;refine⟨mM hf hname hbody,calls_of_wp_defers hf hbody ?_⟩;have hF:=rD (fn:=fn) hV ha;refine aEY hX ho ht h c.pre body g w _ S _ hb hS hF hpre (fun g3 w3 us3 hle3 hV3 e a' w' he=>?_)
 have fin:∀(g':Gh) (fr':Fr) (S3 S4:St) (vs:List PV) (u u':FrameMode) (rv:Value) (pv:PV),Le g3 w3 g' w'→SR X g' S3 w'→FR X ⟨c.params+(fn.ntmps-c.params),[⟨.fn (.func (X.fnOf cf)) us3,#[]⟩]⟩ g' w' fr' a'→nf u rv u'→VR X g' w' pv rv →
   lL X rc caps pv S3 S4→cF fr' S4 c.results=some vs→R (.ret (aW c.raw S S4 (bb vs)).1 (aW c.raw S S4 (bb vs)).2)→Leaves X.P fn a'.tmps (rG X g w R) a'.defers u w':=by
  intro g' fr' S3 S4 vs u u' rv pv hle hS3 hF3 hu hrv hre hres hR;rw[hF3.defers];obtain⟨q1,q2⟩:=aEX hX hcl hu hrv hre hS3 ⟨hV3.1,fun j c u e1 e2=>(hV3.2 j c u e1 e2).mono hle⟩;refine leaves_cons hu.ne (by simpa[invoke]using q1) (q2.mono fun e' m' w'' hh=>?_);obtain⟨rfl,x,r,rfl,g4,hle4,hS4,hv4⟩:=hh;obtain⟨v,z1,z2⟩:=rC hS4 (hF3.mono hle4) hr hres;show Leaves X.P fn a'.tmps (rG X g w R) [] (Go.settle m') w'';rw[hu.settle];exact⟨v,z1,_,_,hR,pG (raw:=c.raw) hS ((hle3.trans hle).trans hle4) hS4 z2⟩
 cases e with
 |normal=>
  obtain⟨g',fr',S3,h1,h2,h3,S4,vs,h4,h5,h6⟩:=he
  exact fin g' fr' S3 S4 vs _ _ _ _ h1 h2 h3 .none .nili h4 h5 h6
 |ret=>
  obtain⟨g',fr',S3,h1,h2,h3,S4,vs,h4,h5,h6⟩:=he
  exact fin g' fr' S3 S4 vs _ _ _ _ h1 h2 h3 .none .nili h4 h5 h6
 |exit m=>obtain⟨g',fr',S3,h1,h2,h3,h4⟩:=he;exact h4.elim
 |panic ch=>
  obtain⟨g',fr',S3,v,u,rfl,h1,h2,h3,h4,S4,vs,h5,h6,h7⟩:=he
  exact fin g' fr' S3 S4 vs _ _ _ _ h1 h2 h3 (.some u) h4 h5 h6 h7
 |goto j=>exact he.elim
 |outgrown=>exact he.elim
end
end Ps
