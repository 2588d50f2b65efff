/- texts and Bytes of an index, whose calls come to this or to that. -/
import Derived.Test.YtpjmpaidcidjgaaGreatDoorAbbKt
import Derived.Test.YtpjmpaidcidjgaaGreatDoorWalkKt
import Derived.Test.YtpjmpaidcidjgaaGreatDoorSimMKt
import Derived.Test.YtpjmpaidcidjgaaGreatDoorSimSoKt
import Derived.Test.YtpjmpaidcidjgaaGreatDoorSimObKt
import Derived.Test.YtpjmpaidcidjgaaGreatDoorSimYKt
import Derived.Test.YtpjmpaidcidjgaaGreatDoorTieXKt
namespace Ps
set_option linter.unusedSimpArgs false
open Go
def Ok(x:Option (Fr×St))(Q:Fr→St→Prop):Prop:=∃y,x=some y∧Q y.1 y.2
@[simp]theorem aGk{y:Fr×St}{Q:Fr→St→Prop}:Ok (some y) Q↔Q y.1 y.2:=⟨fun⟨_,h,hq⟩=>by cases h;exact hq,fun h=>⟨y,rfl,h⟩⟩
@[simp]theorem aGl{c:Prop} [Decidable c]{a b:Option (Fr×St)}{Q:Fr→St→Prop}:Ok (if c then a else b) Q↔(c→Ok a Q)∧(¬c→Ok b Q):=by
 by_cases h:c<;>simp[h]
theorem cF{c:Bool}{a b:Option (Fr×St)}{Q:Fr→St→Prop}(h1:c=true→Ok a Q)(h2:c=false→Ok b Q):Ok (br (.bool c) a b) Q:=by cases c<;>first|exact h1 rfl|exact h2 rfl
theorem hU{fr:Fr}{S:St}{Q:Fr→St→Prop}(h:Q fr S):Ok (some (fr,S)) Q:=⟨_,rfl,h⟩
theorem Ok.mono{x:Option (Fr×St)}{Q R:Fr→St→Prop}(h:Ok x Q)(k:∀fr S,Q fr S→R fr S):Ok x R:=by
 obtain⟨y,h1,h2⟩:=h;exact⟨y,h1,k _ _ h2⟩
@[congr]theorem aGm{x y:Option (Fr×St)}{Q:Fr→St→Prop}(h:x=y):Ok x Q=Ok y Q:=by rw[h]
def km(rs:List kY)(raw:Bool)(S:St)(r:PV)(S2:St)(fr:Fr)(S1:St):Prop:=∃vs,bb fr S1 rs=some vs∧ac raw S S1 (bP vs)=(r,S2)
theorem cM{T:aM}{f:Nat}{c:aT}(hf:T.fn f=some (.code c)){args:List PV}{S S2:St}{r:PV}(ha:args.length=c.params)
  (h:Ok (aF T [.code c.body] (bX args) S) (km c.results c.raw S r S2)):aS T f args S=some (r,S2):=by
 obtain⟨y,h1,vs,h2,h3⟩:=h;refine QF hf ha ?_;rw[h1,oK,h2,oK,h3]
theorem sF{S S1 S2:St}{r:PV}{fr:Fr}{raw:Bool}:km [] raw S r S2 fr S1↔ac raw S S1 (.tup [])=(r,S2):=⟨fun⟨_,h,k⟩=>by cases h;exact k,fun k=>⟨_,rfl,k⟩⟩
@[simp]theorem aGn{S S1 S2:St}{r:PV}{fr:Fr}{raw:Bool}{t:Nat}:km [.tmp t] raw S r S2 fr S1↔ac raw S S1 (fr t)=(r,S2):=⟨fun⟨_,h,k⟩=>by cases h;exact k,fun k=>⟨_,rfl,k⟩⟩
@[simp]theorem aGo{S S1 S2:St}{r:PV}{fr:Fr}{raw:Bool}{t u:Nat}:km [.tmp t,.tmp u] raw S r S2 fr S1↔ac raw S S1 (.tup [fr t,fr u])=(r,S2):=⟨fun⟨_,h,k⟩=>by cases h;exact k,fun k=>⟨_,rfl,k⟩⟩
@[simp]theorem aGp{S S1 S2:St}{r:PV}{fr:Fr}{raw:Bool}{t u v:Nat}:km [.tmp t,.tmp u,.tmp v] raw S r S2 fr S1↔ac raw S S1 (.tup [fr t,fr u,fr v])=(r,S2):=⟨fun⟨_,h,k⟩=>by cases h;exact k,fun k=>⟨_,rfl,k⟩⟩
theorem nY{T:aM}{f:Nat}{c:aT}(hf:T.fn f=some (.code c)){args:List PV}{S:St}(ha:args.length=c.params){R:PV→St→Prop}
  (h:Ok (aF T [.code c.body] (bX args) S) (fun fr S1=>∃vs,bb fr S1 c.results=some vs∧R (ac c.raw S S1 (bP vs)).1 (ac c.raw S S1 (bP vs)).2)) :
  ∃r S2,aS T f args S=some (r,S2)∧R r S2:=by
 obtain⟨y,h1,vs,h2,h3⟩:=h;refine⟨_,_,?_,h3⟩;refine QF hf ha ?_;rw[h1,oK,h2,oK]
section
variable {k : IntKind} {a b : Int} {s t : List UInt8}
@[simp]theorem aGq:arith .add (.int k a) (.int k b)=some (.int k (k.wrap (a+b))):=by simp[arith,eN,fO]
@[simp]theorem aGr:arith .sub (.int k a) (.int k b)=some (.int k (k.wrap (a-b))):=by simp[arith,eN,fO]
@[simp]theorem aGs:arith .mul (.int k a) (.int k b)=some (.int k (k.wrap (a*b))):=by simp[arith,eN,fO]
@[simp]theorem aGt:arith .quo (.int k a) (.int k b)=if b=0 then none else some (.int k (k.wrap (a.tdiv b))):=by simp[arith,eN,fO]
@[simp]theorem aGu:arith .rem (.int k a) (.int k b)=if b=0 then none else some (.int k (a.tmod b)):=by simp[arith,eN,fO]
@[simp]theorem aGv:arith .eql (.int k a) (.int k b)=some (.bool (a==b)):=by simp[arith,eN,fO]
@[simp]theorem aGw:arith .neq (.int k a) (.int k b)=some (.bool (a != b)):=by simp[arith,eN,fO]
@[simp]theorem aGx:arith .lss (.int k a) (.int k b)=some (.bool (a<b)):=by simp[arith,eN,fO]
@[simp]theorem aGy:arith .leq (.int k a) (.int k b)=some (.bool (a≤b)):=by simp[arith,eN,fO]
@[simp]theorem aGz:arith .gtr (.int k a) (.int k b)=some (.bool (a>b)):=by simp[arith,eN,fO]
@[simp]theorem aGA:arith .geq (.int k a) (.int k b)=some (.bool (a≥b)):=by simp[arith,eN,fO]
@[simp]theorem aGB:arith .eql (.str s) (.str t)=some (.bool (s==t)):=rfl
@[simp]theorem aGC:arith .neq (.str s) (.str t)=some (.bool !(s==t)):=rfl
@[simp]theorem aGD:arith .lss (.str s) (.str t)=some (.bool (Op.bytesLess s t)):=rfl
@[simp]theorem aGE:arith .leq (.str s) (.str t)=some (.bool (Op.bytesLess s t||s==t)):=rfl
@[simp]theorem aGF:arith .gtr (.str s) (.str t)=some (.bool !(Op.bytesLess s t||s==t)):=rfl
@[simp]theorem aGG:arith .geq (.str s) (.str t)=some (.bool !(Op.bytesLess s t)):=rfl
@[simp]theorem aGH{b:Bool}:unOp .not (.bool b)=some (.bool !b):=rfl
@[simp]theorem aGI{n:Int}:unOp .xor (.int k n)=some (.int k (k.wrap (BitVec.ofInt k.bits (if k.signed then -1 else k.max) ^^^ BitVec.ofInt k.bits n).toNat)):=rfl
@[simp]theorem aGJ{n:Int}:unOp .neg (.int k n)=some (.int k (k.wrap (0-n))):=rfl
end
@[simp]theorem aGK(l:List (List PV))(x:List PV):(l++[x])[l.length]?=some x:=by simp
@[simp]theorem aGL{α:Type}(l:List α)(x y:α):(l++[x]).set l.length y=l++[y]:=by simp
def aV(S S':St):Prop:=∃o t,S'=⟨S.objs++o,S.tips++t⟩
theorem aV.refl(S:St):aV S S:=⟨[],[],by simp⟩
theorem aV.trans{S S1 S2:St}(h:aV S S1)(k:aV S1 S2):aV S S2:=by
 obtain⟨o,t,rfl⟩:=h;obtain⟨o',t',rfl⟩:=k;exact⟨o++o',t++t',by simp⟩
theorem aV.obj{S S1:St}(h:aV S S1)(x:List PV):aV S ⟨S1.objs++[x],S1.tips⟩:=by
 obtain⟨o,t,rfl⟩:=h;exact⟨o++[x],t,by simp⟩
theorem aV.objs{S S1:St}(h:aV S S1)(x:List (List PV)):aV S ⟨S1.objs++x,S1.tips⟩:=by
 obtain⟨o,t,rfl⟩:=h;exact⟨o++x,t,by simp⟩
theorem aV.arrs{S S1:St}(h:aV S S1)(x:List (Nat×Nat)):aV S ⟨S1.objs,S1.tips++x⟩:=by
 obtain⟨o,t,rfl⟩:=h;exact⟨o,t++x,by simp⟩
theorem aV.arr{S S1:St}(h:aV S S1)(x:Nat×Nat):aV S ⟨S1.objs,S1.tips++[x]⟩:=by
 obtain⟨o,t,rfl⟩:=h;exact⟨o,t++[x],by simp⟩
theorem aV.get{S S1:St}(h:aV S S1){i:Nat}{x:List PV}(e:S.objs[i]?=some x):S1.objs[i]?=some x:=by
 obtain⟨o,t,rfl⟩:=h;have:=(aL.1 e).1;simp only;rw[aw this];exact e
theorem aV.tip{S S1:St}(h:aV S S1){i:Nat}{x:Nat×Nat}(e:S.tips[i]?=some x):S1.tips[i]?=some x:=by
 obtain⟨o,t,rfl⟩:=h;have:=(aL.1 e).1;simp only;rw[aw this];exact e
theorem sG{S S1:St}{r r':PV}(h:aV S S1)(hs:aj S1.objs S.objs.length dJ r=some r'):ac false S S1 r=(r'.frz,S):=by
 obtain⟨o,t,rfl⟩:=h;unfold ac;simp only[bg,if_false]at hs ⊢;rw[hs];simp only[List.take_left,yw,if_true]
theorem pX{objs:List (List PV)}{n:Nat}{r:PV}(h:r.free=true):aj objs n dJ r=some r:=by unfold dJ;exact oG h
theorem gE{S S1:St}{r:PV}(h:aV S S1)(hf:r.free=true):ac false S S1 r=(r.frz,S):=sG h (pX hf)
@[simp]theorem NZ{S S1:St}{k:IntKind}{n:Int}(h:aV S S1):ac false S S1 (.int k n)=(.int k n,S):=gE h rfl
@[simp]theorem aGM{S S1:St}{n:Bool}(h:aV S S1):ac false S S1 (.bool n)=(.bool n,S):=gE h rfl
@[simp]theorem aGN{S S1:St}{n:List UInt8}(h:aV S S1):ac false S S1 (.str n)=(.str n,S):=gE h rfl
@[simp]theorem aGO{S:St}:aV S S:=aV.refl S
theorem xV{T:aM}{f:Nat}{args:List PV}{r:PV}(h:aS T f args bF=some (r,bF))(hf:r.free=true)(hz:r.frz=r):ef T f args=some r:=by
 rw[qW h hf,hz]
@[simp]theorem aGP(k:IntKind)(n:Int):(PV.int k n).frz=.int k n:=rfl
@[simp]theorem aGQ(S:St)(cs:List PV):cR S cs=(.ptr S.objs.length 0,⟨S.objs++[cs],S.tips⟩):=rfl
@[simp]theorem aGR(S:St)(sz:Nat)(es:List PV):dF S sz es=(.sl (some (S.tips.length,es.length)) es [],⟨S.objs,S.tips++[(es.length,sz)]⟩):=rfl
@[simp]theorem aGS{S:St}{ag:Bool}{n:Nat}{cs:List PV}:cO S ag n (.ref cs)=ap ag n cs:=rfl
theorem dG{S:St}{ag:Bool}{n id off:Nat}{cs:List PV}(h:S.objs[id]?=some cs):cO S ag n (.ptr id off)=ap ag n (cs.drop off):=by
 simp only[cO,h]
@[simp]theorem xW{ag:Bool}{n off:Nat}{o:List (List PV)}{cs:List PV}{t:List (Nat×Nat)}:cO ⟨o++[cs],t⟩ ag n (.ptr o.length off)=ap ag n (cs.drop off):=dG (by simp)
@[simp]theorem aGT{ag:Bool}{n off:Nat}{o m:List (List PV)}{cs:List PV}{t:List (Nat×Nat)}:cO ⟨o++cs::m,t⟩ ag n (.ptr o.length off)=ap ag n (cs.drop off):=dG (by simp)
@[simp]theorem aGU{ag:Bool}{n off k:Nat}{o m:List (List PV)}{t:List (Nat×Nat)}:cO ⟨o++m,t⟩ ag n (.ptr (o.length+k) off)=match m[k]? with|some cs=>ap ag n (cs.drop off)|none=>none:=by
 simp only[cO];rw[eH (by omega),QP];cases m[k]?<;>rfl
theorem sH{len cap h:Nat}{k:IntKind}(hh:h≤cap):cC len cap none (some (.int k (h:Int)))=some (0,h):=by
 have h1:(0:Int)≤h∧(h:Int)≤cap:=by omega
 simp only[cC,fP,iN,dh,h1];simp
theorem Na{len cap lo:Nat}{k:IntKind}(hh:lo≤len):cC len cap (some (.int k (lo:Int))) none=some (lo,len):=by
 have h1:(0:Int)≤lo∧(lo:Int)≤len:=by omega
 simp only[cC,fP,iN,dh,h1];simp[hh]
theorem Nb{len cap lo h:Nat}{k j:IntKind}(hl:lo≤h)(hh:h≤cap):cC len cap (some (.int k (lo:Int))) (some (.int j (h:Int)))=some (lo,h):=by
 have h1:(0:Int)≤h∧(h:Int)≤cap:=by omega
 have h2:(0:Int)≤lo∧(lo:Int)≤h:=by omega
 simp only[cC,fP,iN,dh,h1,h2];simp[hl]
structure cn(sz:Nat)(v:PV)(es:List PV):Prop where
 len:dl false v=some (.int .i64 es.length)
 get:∀(i:Nat) (h:i<es.length) (k:IntKind),cb sz v (.int k i)=some (.ref es[i].cells)
theorem xX(sz:Nat):cn sz .nils []:=⟨rfl,fun i h=>by simp at h⟩
theorem xY{sz:Nat}{tip:Option (Nat×Nat)}{es sp:List PV}(h:∀e∈es,e.cells.length=sz):cn sz (.sl tip es sp) es:=
 ⟨rfl,fun i hi k=>by
  have:=h es[i] (fK hi);simp[bK hi,this]⟩
structure bI(S0:St)(sz:Nat)(S:St)(v:PV)(es:List PV):Prop where
 grows:aV S0 S
 acc:(v=.nils∧es=[])∨∃id,S0.tips.length≤id∧v=.sl (some (id,es.length)) es []∧S.tips[id]?=some (es.length,sz)
theorem Nc{S0 S:St}(sz:Nat)(h:aV S0 S):bI S0 sz S .nils []:=⟨h,.inl ⟨rfl,rfl⟩⟩
theorem Nd{S0 S:St}(sz:Nat)(es:List PV)(h:aV S0 S):bI S0 sz ⟨S.objs,S.tips++[(es.length,sz)]⟩ (.sl (some (S.tips.length,es.length)) es []) es:=by
 refine⟨h.arr _,.inr ⟨S.tips.length,?_,rfl,by simp⟩⟩;obtain⟨o,t,rfl⟩:=h;simp
theorem bI.objs{S0 S:St}{sz:Nat}{v:PV}{es:List PV}(h:bI S0 sz S v es)(x:List (List PV)):bI S0 sz ⟨S.objs++x,S.tips⟩ v es:=⟨h.grows.objs x,h.acc⟩
theorem bI.arrs{S0 S:St}{sz:Nat}{v:PV}{es:List PV}(h:bI S0 sz S v es)(x:List (Nat×Nat)):bI S0 sz ⟨S.objs,S.tips++x⟩ v es:=by
 refine⟨h.grows.arrs x,?_⟩;rcases h.acc with a|⟨id,a,b,c⟩
 ·exact .inl a
 ·refine .inr ⟨id,a,b,?_⟩;have:=(aL.1 c).1;simp only;rw[aw this];exact c
theorem bI.app{S0 S:St}{sz bytes:Nat}{v:PV}{es:List PV}(h:bI S0 sz S v es)(new:List PV)(hb:(es.length+new.length)*bytes≤140737488355328) :
  ∃v' S',dT sz bytes S v new=some (v',S')∧bI S0 sz S' v' (es++new)∧S'.objs=S.objs:=by
 obtain⟨hg,ha⟩:=h
 cases new with
 |nil=>
  rcases ha with⟨rfl,rfl⟩|⟨id,hid,rfl,h2⟩
  ·exact⟨.nils,S,by simp[dT],⟨hg,.inl ⟨rfl,rfl⟩⟩,rfl⟩
  ·exact⟨_,S,by simp only[dT,List.isEmpty_nil,if_true];rfl,⟨hg,.inr ⟨id,hid,by simp,by simpa using h2⟩⟩,rfl⟩
 |cons n new=>
  rcases ha with⟨rfl,rfl⟩|⟨id,hid,rfl,h2⟩
  ·refine⟨.sl (some (S.tips.length,(n::new).length)) (n::new) [],⟨S.objs,S.tips++[((n::new).length,sz)]⟩,?_,?_,rfl⟩
   ·simp only[dT,qf,bg,if_false];rw[if_pos (by simpa using hb)];rfl
   ·have:=Nd sz (n::new) hg;simpa using this
  ·refine⟨.sl (some (id,es.length+(n::new).length)) (es++n::new) [],{S with tips:=S.tips.set id (es.length+(n::new).length,sz)},?_,?_,rfl⟩
   ·simp only[dT,qf,bg,if_false];rw[if_pos ⟨h2,hb⟩]
   ·have hlt:=(aL.1 h2).1;refine⟨?_,.inr ⟨id,hid,by simp,?_⟩⟩
    ·obtain⟨o,t,rfl⟩:=hg;refine⟨o,t.set (id-S0.tips.length) (es.length+(n::new).length,sz),?_⟩;simp only[St.mk.injEq,true_and];rw[tj _ _ hid]
    ·simp[hlt]
def js(v:PV)(es:List PV):PV:=match v with|.nils=>.nils|_=>.sl none es []
theorem bI.fin{S0 S:St}{sz:Nat}{v:PV}{es:List PV}(h:bI S0 sz S v es)(hf:PV.freeL es=true)(hz:PV.frzL es=es):ac false S0 S v=(js v es,S0):=by
 obtain⟨hg,ha⟩:=h;rcases ha with⟨rfl,rfl⟩|⟨id,_,rfl,_⟩
 ·exact gE hg rfl
 ·rw[gE hg (by simp[PV.free,hf,PV.freeL])];simp[PV.frz,hz,js,PV.frzL]
theorem bI.len{S0 S:St}{sz:Nat}{v:PV}{es:List PV}(h:bI S0 sz S v es):dl false v=some (.int .i64 es.length):=by
 rcases h.acc with⟨rfl,rfl⟩|⟨id,_,rfl,_⟩<;>rfl
theorem ju{α:Type}(f:α→PV)(h:∀x,(f x).free=true):∀l:List α,PV.freeL (l.map f)=true
 | []=>rfl
 |a::l=>by simp[PV.freeL,h a,ju f h l]
theorem jv{α:Type}(f:α→PV)(h:∀x,(f x).frz=f x):∀l:List α,PV.frzL (l.map f)=l.map f
 | []=>rfl
 |a::l=>by simp[PV.frzL,h a,jv f h l]
def cU(sz:Nat)(v:PV)(es:List PV):Prop:=(v=.nils∧es=[])∨∃tip sp,v=.sl tip es sp∧∀e∈es++sp,e.cells.length=sz
theorem cU.reads{sz:Nat}{v:PV}{es:List PV}(h:cU sz v es):cn sz v es:=by
 rcases h with⟨rfl,rfl⟩|⟨tip,sp,rfl,h⟩
 ·exact xX sz
 ·exact xY (fun e he=>h e (by simp[he]))
theorem cU.len{sz:Nat}{v:PV}{es:List PV}(h:cU sz v es):dl false v=some (.int .i64 es.length):=h.reads.len
theorem nZ{sz:Nat}{es:List PV}(h:∀e∈es,e.cells.length=sz):gS sz es=true:=by
 cases es with
 |nil=>rfl
 |cons e es=>simp[h e (by simp)]
theorem cU.appd{sz:Nat}{v:PV}{es:List PV}(h:cU sz v es):jl sz v=some es:=by
 rcases h with⟨rfl,rfl⟩|⟨tip,sp,rfl,h⟩
 ·rfl
 ·rw[aC0,if_pos (nZ (fun e he=>h e (by simp[he])))]
theorem cU.lo{sz:Nat}{v:PV}{es:List PV}(h:cU sz v es){lo:Nat}{k:IntKind}(hl:lo≤es.length):∃v',dk sz (some (.int k (lo:Int))) none v=some v'∧cU sz v' (es.drop lo):=by
 rcases h with⟨rfl,rfl⟩|⟨tip,sp,rfl,h⟩
 ·refine⟨.nils,?_,.inl ⟨rfl,by simp⟩⟩;have:lo=0:=by simpa using hl
  subst this;rw[tL,Na (by omega)]
 ·refine⟨.sl (if es.length=es.length then tip else none) (((es++sp).take es.length).drop lo) ((es++sp).drop es.length),?_,.inr ⟨if es.length=es.length then tip else none,sp,?_,?_⟩⟩
  ·rw[tM,nZ h,Na hl];rfl
  ·simp
  ·intro e he;refine h e ?_;rcases bn.1 he with he|he
   ·exact oR _ (fo he)
   ·exact List.mem_append_right _ he
theorem cU.lh{sz:Nat}{v:PV}{es:List PV}(h:cU sz v es){lo hi:Nat}{k j:IntKind}(hl:lo≤hi)(hh:hi≤es.length):∃v',dk sz (some (.int k (lo:Int))) (some (.int j (hi:Int))) v=some v'∧cU sz v' ((es.take hi).drop lo):=by
 rcases h with⟨rfl,rfl⟩|⟨tip,sp,rfl,h⟩
 ·refine⟨.nils,?_,.inl ⟨rfl,by simp⟩⟩;have:hi=0:=by simpa using hh
  subst this;rw[tL,Nb hl (by omega)]
 ·refine⟨.sl (if hi=es.length then tip else none) (((es++sp).take hi).drop lo) ((es++sp).drop hi),?_,.inr ⟨if hi=es.length then tip else none,(es++sp).drop hi,?_,?_⟩⟩
  ·rw[tM,nZ h,Nb hl (by omega)];rfl
  ·rw[jW hh]
  ·intro e he;refine h e ?_;rcases bn.1 he with he|he
   ·exact oR _ (jV (fo he))
   ·exact fo he
theorem bI.isSl{S0 S:St}{sz:Nat}{v:PV}{es:List PV}(h:bI S0 sz S v es)(hc:∀e∈es,e.cells.length=sz):cU sz v es:=by
 rcases h.acc with⟨rfl,rfl⟩|⟨id,_,rfl,_⟩
 ·exact .inl ⟨rfl,rfl⟩
 ·exact .inr ⟨_,[],rfl,by simpa using hc⟩
theorem appdS{S:St}{sz:Nat}{v:PV}{es:List PV}(h:jl sz v=some es):dS S sz v=some es:=by
 cases v<;>first|exact h|(simp[jl]at h)
theorem cU.appdS{S:St}{sz:Nat}{v:PV}{es:List PV}(h:cU sz v es):dS S sz v=some es:=Ps.appdS h.appd
end Ps
set_option linter.defProp false
namespace Ps
set_option linter.unusedVariables false
set_option linter.unusedSimpArgs false
open Go
def cS:aN→Bool
 |.skip=>true
 |.exit _=>true
 |.region ps=>!ps.any (fun p=>fj p.op)
 |.seq a b=>cS a&&cS b
 |.cond _ a b=>cS a&&cS b
 |.block _ b=>cS b
 |.loop b=>cS b
 |.scope b=>cS b
 |.clr _ b=>cS b
 |_=>false
def aAr{T:aM}{call:aX}:∀{k:Nat} {c:aN} {fr fr':Fr} {S S':St} {e:Ex},cS c=true→aU T call k c fr S=some (e,fr',S')→e≠.ret:=by
 intro k
 induction k with
 |zero=>intro c fr fr' S S' e _ h;simp[aU]at h
 |succ k ih=>
  intro c fr fr' S S' e hp h
  cases c with
  |skip=>simp only[aU]at h;cases h;simp
  |ret=>simp[cS]at hp
  |bad=>simp[cS]at hp
  |rng=>simp[cS]at hp
  |exit m=>simp only[aU]at h;cases h;simp
  |region ps=>
   simp only[aU]at h;split at h
   ·cases h;simp
   ·cases h
  |seq a b=>
   simp only[cS,aI]at hp;simp only[aU]at h;split at h
   ·exact ih hp.2 h
   ·exact ih hp.1 h
  |cond x a b=>
   simp only[cS,aI]at hp;simp only[aU]at h;split at h
   ·exact ih hp.1 h
   ·exact ih hp.2 h
   ·cases h
  |block m b=>
   simp only[cS]at hp;simp only[aU]at h;split at h
   ·split at h<;>cases h<;>simp
   ·exact ih hp h
  |loop b=>
   have hp':=hp;simp only[cS]at hp;simp only[aU]at h;split at h
   ·exact ih hp' h
   ·exact ih hp h
  |scope b=>simp only[cS]at hp;simp only[aU]at h;exact ih hp h
  |clr l b=>
   simp only[cS]at hp;simp only[aU]at h;split at h
   ·cases h;simp
   ·exact ih hp h
theorem kG{X:Tie}{n:Nat}:∀{pc:aN} {c:Code},cS pc=true→cG X n c pc=true→bw X n c pc=true
 |.skip,c,_,h=>by cases c<;>simp_all[cG,bw]
 |.exit m,c,_,h=>by cases c<;>simp_all[cG,bw]
 |.region ps,c,hp,h=>by
  cases c<;>simp only[cG]at h<;>try (cases h;done)
  simp only[cS,fV]at hp;rw[hp]at h
  simpa using h
 |.seq a b,c,hp,h=>by
  cases c<;>simp only[cG]at h<;>try (cases h;done)
  simp only[cS,aI]at hp h;simp only[bw,aI]
  exact⟨kG hp.1 h.1,kG hp.2 h.2⟩
 |.cond x a b,c,hp,h=>by
  cases c<;>simp only[cG]at h<;>try (cases h;done)
  simp only[cS,aI]at hp h;simp only[bw,aI]
  exact⟨⟨h.1.1,kG hp.1 h.1.2⟩,kG hp.2 h.2⟩
 |.block m b,c,hp,h=>by
  cases c<;>simp only[cG]at h<;>try (cases h;done)
  simp only[cS]at hp;simp only[aI]at h;simp only[bw,aI]
  exact⟨h.1,kG hp h.2⟩
 |.loop b,c,hp,h=>by
  cases c<;>simp only[cG]at h<;>try (cases h;done)
  simp only[cS]at hp;simp only[bw]
  exact kG hp h
 |.scope b,c,hp,h=>by
  cases c<;>simp only[cG]at h<;>try (cases h;done)
  simp only[cS]at hp;simp only[bw]
  exact kG hp h
 |.clr l b,c,hp,h=>by
  simp only[cS]at hp;have h':cG X n c b=true:=by cases c<;>exact h
  have:=kG hp h'
  cases c<;>exact this
 |.ret,_,hp,_=>by simp[cS]at hp
 |.bad,_,hp,_=>by simp[cS]at hp
 |.rng ..,_,hp,_=>by simp[cS]at hp
section
variable {X : Tie} {fr : Fr} {S : St}
def yq(hX:bY X){c:aN}{Post:Wx→Fr→St→Prop}(hp:cS c=true)(h:Ok (aF X.T [.code c] fr S) (Post .norm)):W X c fr S Post:=by
 obtain⟨⟨fr',S'⟩,h1,h2⟩:=h;obtain⟨k,hk⟩:=iR.1 h1;obtain⟨e,fr1,S1,h3,h4⟩:=ry X.T k c [] fr S _ hk;have hne:=aAr hp h3
 have he:e=.norm∧fr1=fr'∧S1=S':=by
  cases e with
  |norm=>
   obtain⟨i,hi,h5⟩:=h4
   cases i with
   |zero=>simp[aW]at h5
   |succ i=>
    simp only[aW,ae,ba]at h5
    exact⟨rfl,h5.1,h5.2⟩
  |exit m=>obtain⟨K',i,q1,_⟩:=h4;simp[fB]at q1
  |ret=>exact absurd rfl hne
 obtain⟨rfl,rfl,rfl⟩:=he;intro n c' hc g w a hS hF;exact(lH hX.ty hX.meth (qI hX k) hX.mixed n k).1 c' c fr S .norm fr1 S1 g w a _ (kG hp hc) hS hF h3 (fun g' w' a' k1 k2 k3=>⟨g',fr1,S1,k1,k2,k3,h2⟩)
def aAs{T:aM}{l:List aA}{fr fr':Fr}{S S':St}(h:aF T [.ops l] fr S=some (fr',S')):aY T (aS T) l fr S=some (fr',S'):=by
 obtain⟨k,hk⟩:=iR.1 h;obtain⟨fr1,S1,i,h1,h2,h3⟩:=pS T l k [] fr S _ hk
 cases i with
 |zero=>simp[aW]at h3
 |succ i=>
  simp only[aW,ae,ba]at h3;obtain⟨rfl,rfl⟩:=h3;exact hJ (pR T k) h1
def yr{T:aM}{l:List aA}{fr:Fr}{S:St}{P:Fr→St→Prop}(h:Ok (aF T [.ops l] fr S) P):∃fr' S',aY T (aS T) l fr S=some (fr',S')∧P fr' S':=by
 obtain⟨⟨fr',S'⟩,h1,h2⟩:=h;exact⟨fr',S',aAs h1,h2⟩
def qT{l l2:List aA}{Q:Wo→Prop}(hp:l.all (fun p=>!fj p.op)=true)(h:Ok (aF X.T [.ops l] fr S) (fun fr1 S1=>bz X l2 fr1 S1 Q)):bz X (l++l2) fr S Q:=by
 obtain⟨fr1,S1,h1,h2⟩:=yr h;exact(qO (fun p hpm=>by have:=List.all_eq_true.1 hp p hpm;simpa using this)).2 ⟨fr1,S1,h1,h2⟩
def aAt{l:List aA}{Q:Wo→Prop}(hp:l.all (fun p=>!fj p.op)=true)(h:Ok (aF X.T [.ops l] fr S) (fun fr1 S1=>Q (.norm fr1 S1))):bz X l fr S Q:=by
 have:=qT (X:=X) (l2:=[]) (Q:=Q) hp h
 rwa [dn]at this
def Pp{d:Option Nat}{ks:List Nat}{x:aG}{args:List aG}{l:List aA}{Q:Wo→Prop}{f:Nat}{aq:List PV}{R:Rs→Prop}(hc:jR fr x args=some (f,aq))(hs:ca X f aq S R)
  (hr:∀v S',R (.ret v S')→oJ fr ks S S'∧bz X l (aO fr d v) S' Q)(hp:∀v S',R (.pan v S')→Q (.pan v S')):bz X (⟨d,.wc ks x args,none⟩::l) fr S Q:=by
 simp only[bz,bW];exact⟨f,aq,R,hc,hs,hr,hp⟩
def yu(hX:bY X){f:Nat}{fn:Func}{c:Code}(hf:X.P.funcs[X.fnOf f]?=some fn)(hb:fn.body=some c)(hn:fn.name ≠ "runtime.NumGoroutine") {args:List PV} {r:PV} {S':St} (h:aS X.T f args S=some (r,S')):ca X f args S (fun q=>q=.ret r S'):=by
 intro g w us hS hV;have hrun:=iW (us:=us) (w:=w) hf hn hb;refine⟨hrun,?_⟩
 have h1:=ly hX f args S r S' h g w us hS hV (Oper.mk (some 0) (.move (.const undef)) 0 "" #[] none) {tmps:=#[undef],defers:=[]}
  (fun a w'=>∃u,a.tmps = #[u]∧bu X g w S' r u w') (fun _ _ _=>False) (fun u w' hst=>⟨u,by simp[Act.put],hst⟩)
 rw[hrun,Oper.upon_enter]at h1;refine h1.mono fun e w' he=>?_
 cases e with
 |returned v=>
  obtain⟨u,hu,hst⟩:=he;have:v=u:=by simpa[Act.put]using hu
  subst this
  exact⟨r,S',rfl,hst⟩
 |panicked ch=>exact absurd he id
 |outgrown=>obtain⟨a,w2,h2⟩:=he;exact absurd h2 id
def iE(hX:bY X){p q:aN}{Post:Wx→Fr→St→Prop}(hp:cS p=true)(h:Ok (aF X.T [.code p] fr S) (fun fr' S'=>W X q fr' S' Post)):W X (.seq p q) fr S Post:=
 lN (yq hX hp h)
def Pq(hX:bY X){p:aN}{Post:Wx→Fr→St→Prop}(hp:cS p=true)(h:Ok (aF X.T [.code p] fr S) (Post .ret)):W X (.seq p .ret) fr S Post:=
 iE hX hp (h.mono fun _ _ k=>Pm k)
def aAu(hX:bY X){p q r:aN}{x:aG}{Post:Wx→Fr→St→Prop}(hp:cS p=true)
  (h:Ok (aF X.T [.code p] fr S) (fun fr' S'=>∃b,ev fr' x=.bool b∧(b=true→W X q fr' S' (fun e fr2 S2=>match e with|.norm=>W X r fr2 S2 Post|e=>Post e fr2 S2))∧(b=false→W X r fr' S' Post))) :
  W X (.seq (.seq p (.cond x q .skip)) r) fr S Post:=by
 refine lN (lN (yq hX hp (h.mono fun fr' S' k=>?_)));obtain⟨b,e,k1,k2⟩:=k;refine qR e ?_
 cases b with
 |true=>
  refine(k1 rfl).mono fun e fr2 S2 m=>?_
  cases e<;>exact m
 |false=>exact yo (k2 rfl)
def aAv{it en:Nat}{post:List aA}{l:List (Nat×Nat)}{b:aN}{Post:Fr→St→Prop}{N:Nat}{rem:List (PV×PV)}
  (h:∀k v rem' r,rem.Perm ((k,v)::rem')→Ok (aF X.T [.ops post] (upd (upd fr it (.hnd r)) en (.tup [k,v])) S) (fun fr2 S2=>W X b fr2 S2 (fun e fr3 S3=>e=.norm∧fr3 it=.hnd r∧mj X it en post l b Post N rem' (clrs l fr3) S3))) :
  mj X it en post l b Post (N+1) rem fr S:=by
 intro k v rem' r hp;obtain⟨fr2,S2,h1,h2⟩:=yr (h k v rem' r hp);exact⟨fr2,S2,h1,h2⟩
end
end Ps
set_option linter.defProp false
namespace Ps
open Go Go.Proofs
def ui:List aA:=[M 10 0,bL 11 10,FA 12 1 11,LD 13 12]
def oe:List aA:=[EX 18 0 17,Q 5 (.alloc false [(.str []),(.str [])]),QN (.store 2 (V 5) (V 18))]
def uj:List aA:=[M 19 4,Q 20 (.iaddra 2 1 (V 5) (I 0)),Q 21 (.loadb 5 false 1 (V 20)),M 22 4,Q 23 (.iaddra 2 1 (V 5) (I 1)),Q 24 (.loadb 5 false 1 (V 23)),QN (.msb [5] true (V 19) (V 21) (I 0)),QN (.msb [5] true (V 22) (V 24) (I 0))]
def la:List (Nat×Nat):=[(14,15),(15,17),(5,6),(17,19)]
def og:aN:=.clr [(19,25)] (.region uj)
def ul:aT:=⟨1,[.tmp 2,.tmp 3],
 (.seq (.region wk) (.seq (.clr [(9,10)] (.region wl)) (.seq (.rng ui (V 13) 17 oe la og) (.seq (.clr [(25,28)] (.region wm)) (.seq (.seq (.region wn) (.block 2 (.loop wo))) (.seq (.clr [(39,41)] (.region wq)) .ret)))))),false⟩
def Ax:List aA:=[M 16 0]++(Q 17 (.wc [] (.cst (.fn 234 [])) [V 16])::[M 15 17,EX 18 0 15,EX 19 1 15,M 3 18,M 4 19])
def uo:aT:=⟨1,[.tmp 2],
 (.seq (.region wK) (.seq (.seq (.clr [(13,14)] (.region wL)) (.cond (V 14) (.seq (.region JO) .ret) .skip)) (.seq (.clr [(15,20)] (.region Ax)) (.seq (.clr [(6,7),(20,26)] (.region wM)) (.seq (.seq (.region wN) (.block 0 (.loop wO))) (.seq (.clr [(39,49)] (.region wP)) (.seq (.seq (.clr [(49,52)] (.region wQ)) (.block 2 (.loop wS))) (.seq (.clr [(91,92)] (.region wT)) .ret)))))))),false⟩
def Tw(T:aM)(K:List Kt)(fr:Fr)(S:St):type_of% (aP oe.eq_1 T K fr S):=aP oe.eq_1 T K fr S
def Tx(T:aM)(K:List Kt)(fr:Fr)(S:St):type_of% (aP uj.eq_1 T K fr S):=aP uj.eq_1 T K fr S
def UA(T:aM)(K:List Kt)(fr:Fr)(S:St):type_of% (bG og.eq_1 T K fr S):=bG og.eq_1 T K fr S
def jg:tie.T=T:=rfl
def UB:tie.P.funcs[tie.fnOf 234]?=some Tryz.f50:=Tryz.func50
def UC:eY tie Tryz.f50 ul=true:=by kernel_rfl
def UD:tie.P.funcs[tie.fnOf 134]?=some Tryz.f23:=Tryz.func23
def UE:eY tie Tryz.f23 uo=true:=by kernel_rfl
end Ps
