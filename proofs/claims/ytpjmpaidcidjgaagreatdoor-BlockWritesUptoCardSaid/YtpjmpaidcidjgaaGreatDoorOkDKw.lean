/- A function that defers a call: how it is walked. -/
import Derived.Test.YtpjmpaidcidjgaaGreatDoorAbbKw
import Derived.Test.YtpjmpaidcidjgaaGreatDoorWalkKw
import Derived.Test.YtpjmpaidcidjgaaGreatDoorSimMKw
import Derived.Test.YtpjmpaidcidjgaaGreatDoorSimJKw
import Derived.Test.YtpjmpaidcidjgaaGreatDoorSimObKw
import Derived.Test.YtpjmpaidcidjgaaGreatDoorSimYKw
namespace Ps
set_option linter.unusedSimpArgs false
open Go
def Ok(x:Option (Fr×St))(Q:Fr→St→Prop):Prop:=∃y,x=some y∧Q y.1 y.2
@[simp]theorem aKh{y:Fr×St}{Q:Fr→St→Prop}:Ok (some y) Q↔Q y.1 y.2:=⟨fun⟨_,h,hq⟩=>by cases h;exact hq,fun h=>⟨y,rfl,h⟩⟩
@[simp]theorem aKi{c:Prop} [Decidable c]{a b:Option (Fr×St)}{Q:Fr→St→Prop}:Ok (if c then a else b) Q↔(c→Ok a Q)∧(¬c→Ok b Q):=by
 by_cases h:c<;>simp[h]
theorem bV{c:Bool}{a b:Option (Fr×St)}{Q:Fr→St→Prop}(h1:c=true→Ok a Q)(h2:c=false→Ok b Q):Ok (br (.bool c) a b) Q:=by cases c<;>first|exact h1 rfl|exact h2 rfl
theorem dj{fr:Fr}{S:St}{Q:Fr→St→Prop}(h:Q fr S):Ok (some (fr,S)) Q:=⟨_,rfl,h⟩
theorem Ok.mono{x:Option (Fr×St)}{Q R:Fr→St→Prop}(h:Ok x Q)(k:∀fr S,Q fr S→R fr S):Ok x R:=by
 obtain⟨y,h1,h2⟩:=h;exact⟨y,h1,k _ _ h2⟩
@[congr]theorem aKj{x y:Option (Fr×St)}{Q:Fr→St→Prop}(h:x=y):Ok x Q=Ok y Q:=by rw[h]
def lL(rs:List lC)(raw:Bool)(S:St)(r:PV)(S2:St)(fr:Fr)(S1:St):Prop:=∃vs,bh fr S1 rs=some vs∧ak raw S S1 (bu vs)=(r,S2)
theorem bP{T:aQ}{f:Nat}{c:aU}(hf:T.fn f=some (.code c)){args:List PV}{S S2:St}{r:PV}(ha:args.length=c.params)
  (h:Ok (aE T [.code c.body] (bg args) S) (lL c.results c.raw S r S2)):aM T f args S=some (r,S2):=by
 obtain⟨y,h1,vs,h2,h3⟩:=h;refine Sv hf ha ?_;rw[h1,pE,h2,pE,h3]
theorem tw{S S1 S2:St}{r:PV}{fr:Fr}{raw:Bool}:lL [] raw S r S2 fr S1↔ak raw S S1 (.tup [])=(r,S2):=⟨fun⟨_,h,k⟩=>by cases h;exact k,fun k=>⟨_,rfl,k⟩⟩
@[simp]theorem aKk{S S1 S2:St}{r:PV}{fr:Fr}{raw:Bool}{t:Nat}:lL [.tmp t] raw S r S2 fr S1↔ak raw S S1 (fr t)=(r,S2):=⟨fun⟨_,h,k⟩=>by cases h;exact k,fun k=>⟨_,rfl,k⟩⟩
@[simp]theorem aKl{S S1 S2:St}{r:PV}{fr:Fr}{raw:Bool}{t u:Nat}:lL [.tmp t,.tmp u] raw S r S2 fr S1↔ak raw S S1 (.tup [fr t,fr u])=(r,S2):=⟨fun⟨_,h,k⟩=>by cases h;exact k,fun k=>⟨_,rfl,k⟩⟩
@[simp]theorem aKm{S S1 S2:St}{r:PV}{fr:Fr}{raw:Bool}{t u v:Nat}:lL [.tmp t,.tmp u,.tmp v] raw S r S2 fr S1↔ak raw S S1 (.tup [fr t,fr u,fr v])=(r,S2):=⟨fun⟨_,h,k⟩=>by cases h;exact k,fun k=>⟨_,rfl,k⟩⟩
theorem gt{T:aQ}{f:Nat}{c:aU}(hf:T.fn f=some (.code c)){args:List PV}{S:St}(ha:args.length=c.params){R:PV→St→Prop}
  (h:Ok (aE T [.code c.body] (bg args) S) (fun fr S1=>∃vs,bh fr S1 c.results=some vs∧R (ak c.raw S S1 (bu vs)).1 (ak c.raw S S1 (bu vs)).2)) :
  ∃r S2,aM T f args S=some (r,S2)∧R r S2:=by
 obtain⟨y,h1,vs,h2,h3⟩:=h;refine⟨_,_,?_,h3⟩;refine Sv hf ha ?_;rw[h1,pE,h2,pE]
section
variable {k : IntKind} {a b : Int} {s t : List UInt8}
@[simp]theorem aKn:arith .add (.int k a) (.int k b)=some (.int k (k.wrap (a+b))):=by simp[arith,eX,fV]
@[simp]theorem aKo:arith .sub (.int k a) (.int k b)=some (.int k (k.wrap (a-b))):=by simp[arith,eX,fV]
@[simp]theorem aKp:arith .mul (.int k a) (.int k b)=some (.int k (k.wrap (a*b))):=by simp[arith,eX,fV]
@[simp]theorem aKq:arith .quo (.int k a) (.int k b)=if b=0 then none else some (.int k (k.wrap (a.tdiv b))):=by simp[arith,eX,fV]
@[simp]theorem aKr:arith .rem (.int k a) (.int k b)=if b=0 then none else some (.int k (a.tmod b)):=by simp[arith,eX,fV]
@[simp]theorem aKs:arith .eql (.int k a) (.int k b)=some (.bool (a==b)):=by simp[arith,eX,fV]
@[simp]theorem aKt:arith .neq (.int k a) (.int k b)=some (.bool (a != b)):=by simp[arith,eX,fV]
@[simp]theorem aKu:arith .lss (.int k a) (.int k b)=some (.bool (a<b)):=by simp[arith,eX,fV]
@[simp]theorem aKv:arith .leq (.int k a) (.int k b)=some (.bool (a≤b)):=by simp[arith,eX,fV]
@[simp]theorem aKw:arith .gtr (.int k a) (.int k b)=some (.bool (a>b)):=by simp[arith,eX,fV]
@[simp]theorem aKx:arith .geq (.int k a) (.int k b)=some (.bool (a≥b)):=by simp[arith,eX,fV]
@[simp]theorem aKy:arith .eql (.str s) (.str t)=some (.bool (s==t)):=rfl
@[simp]theorem aKz:arith .neq (.str s) (.str t)=some (.bool !(s==t)):=rfl
@[simp]theorem aKA:arith .lss (.str s) (.str t)=some (.bool (Op.bytesLess s t)):=rfl
@[simp]theorem aKB:arith .leq (.str s) (.str t)=some (.bool (Op.bytesLess s t||s==t)):=rfl
@[simp]theorem aKC:arith .gtr (.str s) (.str t)=some (.bool !(Op.bytesLess s t||s==t)):=rfl
@[simp]theorem aKD:arith .geq (.str s) (.str t)=some (.bool !(Op.bytesLess s t)):=rfl
@[simp]theorem aKE{b:Bool}:unOp .not (.bool b)=some (.bool !b):=rfl
@[simp]theorem aKF{n:Int}:unOp .xor (.int k n)=some (.int k (k.wrap (BitVec.ofInt k.bits (if k.signed then -1 else k.max) ^^^ BitVec.ofInt k.bits n).toNat)):=rfl
@[simp]theorem aKG{n:Int}:unOp .neg (.int k n)=some (.int k (k.wrap (0-n))):=rfl
end
@[simp]theorem aKH(l:List (List PV))(x:List PV):(l++[x])[l.length]?=some x:=by simp
@[simp]theorem aKI{α:Type}(l:List α)(x y:α):(l++[x]).set l.length y=l++[y]:=by simp
def aN(S S':St):Prop:=∃o t,S'=⟨S.objs++o,S.tips++t⟩
theorem aN.refl(S:St):aN S S:=⟨[],[],by simp⟩
theorem aN.trans{S S1 S2:St}(h:aN S S1)(k:aN S1 S2):aN S S2:=by
 obtain⟨o,t,rfl⟩:=h;obtain⟨o',t',rfl⟩:=k;exact⟨o++o',t++t',by simp⟩
theorem aN.obj{S S1:St}(h:aN S S1)(x:List PV):aN S ⟨S1.objs++[x],S1.tips⟩:=by
 obtain⟨o,t,rfl⟩:=h;exact⟨o++[x],t,by simp⟩
theorem aN.objs{S S1:St}(h:aN S S1)(x:List (List PV)):aN S ⟨S1.objs++x,S1.tips⟩:=by
 obtain⟨o,t,rfl⟩:=h;exact⟨o++x,t,by simp⟩
theorem aN.arrs{S S1:St}(h:aN S S1)(x:List (Nat×Nat)):aN S ⟨S1.objs,S1.tips++x⟩:=by
 obtain⟨o,t,rfl⟩:=h;exact⟨o,t++x,by simp⟩
theorem aN.arr{S S1:St}(h:aN S S1)(x:Nat×Nat):aN S ⟨S1.objs,S1.tips++[x]⟩:=by
 obtain⟨o,t,rfl⟩:=h;exact⟨o,t++[x],by simp⟩
theorem aN.get{S S1:St}(h:aN S S1){i:Nat}{x:List PV}(e:S.objs[i]?=some x):S1.objs[i]?=some x:=by
 obtain⟨o,t,rfl⟩:=h;have:=(aO.1 e).1;simp only;rw[bF this];exact e
theorem aN.tip{S S1:St}(h:aN S S1){i:Nat}{x:Nat×Nat}(e:S.tips[i]?=some x):S1.tips[i]?=some x:=by
 obtain⟨o,t,rfl⟩:=h;have:=(aO.1 e).1;simp only;rw[bF this];exact e
theorem ml{S S1:St}{r r':PV}(h:aN S S1)(hs:sol S1.objs S.objs.length eF r=some r'):ak false S S1 r=(r'.frz,S):=by
 obtain⟨o,t,rfl⟩:=h;unfold ak;simp only[bp,if_false]at hs ⊢;rw[hs];simp only[List.take_left,Ab,if_true]
theorem rC{objs:List (List PV)}{n:Nat}{r:PV}(h:r.free=true):sol objs n eF r=some r:=by unfold eF;exact nP h
theorem eR{S S1:St}{r:PV}(h:aN S S1)(hf:r.free=true):ak false S S1 r=(r.frz,S):=ml h (rC hf)
@[simp]theorem QU{S S1:St}{k:IntKind}{n:Int}(h:aN S S1):ak false S S1 (.int k n)=(.int k n,S):=eR h rfl
@[simp]theorem aKJ{S S1:St}{n:Bool}(h:aN S S1):ak false S S1 (.bool n)=(.bool n,S):=eR h rfl
@[simp]theorem aKK{S S1:St}{n:List UInt8}(h:aN S S1):ak false S S1 (.str n)=(.str n,S):=eR h rfl
@[simp]theorem aKL{S:St}:aN S S:=aN.refl S
theorem oR{T:aQ}{f:Nat}{args:List PV}{r:PV}(h:aM T f args bT=some (r,bT))(hf:r.free=true)(hz:r.frz=r):di T f args=some r:=by
 rw[nV h hf,hz]
@[simp]theorem aKM(k:IntKind)(n:Int):(PV.int k n).frz=.int k n:=rfl
@[simp]theorem aKN(S:St)(cs:List PV):cj S cs=(.ptr S.objs.length 0,⟨S.objs++[cs],S.tips⟩):=rfl
@[simp]theorem aKO(S:St)(sz:Nat)(es:List PV):dQ S sz es=(.sl (some (S.tips.length,es.length)) es [],⟨S.objs,S.tips++[(es.length,sz)]⟩):=rfl
@[simp]theorem aKP{S:St}{ag:Bool}{n:Nat}{cs:List PV}:cg S ag n (.ref cs)=az ag n cs:=rfl
theorem dM{S:St}{ag:Bool}{n id off:Nat}{cs:List PV}(h:S.objs[id]?=some cs):cg S ag n (.ptr id off)=az ag n (cs.drop off):=by
 simp only[cg,h]
@[simp]theorem zC{ag:Bool}{n off:Nat}{o:List (List PV)}{cs:List PV}{t:List (Nat×Nat)}:cg ⟨o++[cs],t⟩ ag n (.ptr o.length off)=az ag n (cs.drop off):=dM (by simp)
@[simp]theorem aKQ{ag:Bool}{n off:Nat}{o m:List (List PV)}{cs:List PV}{t:List (Nat×Nat)}:cg ⟨o++cs::m,t⟩ ag n (.ptr o.length off)=az ag n (cs.drop off):=dM (by simp)
@[simp]theorem aKR{ag:Bool}{n off k:Nat}{o m:List (List PV)}{t:List (Nat×Nat)}:cg ⟨o++m,t⟩ ag n (.ptr (o.length+k) off)=match m[k]? with|some cs=>az ag n (cs.drop off)|none=>none:=by
 simp only[cg];rw[eJ (by omega),Nat.add_sub_cancel_left];cases m[k]?<;>rfl
theorem tx{len cap h:Nat}{k:IntKind}(hh:h≤cap):cY len cap none (some (.int k (h:Int)))=some (0,h):=by
 have h1:(0:Int)≤h∧(h:Int)≤cap:=by omega
 simp only[cY,fu,jB,eE,h1];simp
theorem QV{len cap lo:Nat}{k:IntKind}(hh:lo≤len):cY len cap (some (.int k (lo:Int))) none=some (lo,len):=by
 have h1:(0:Int)≤lo∧(lo:Int)≤len:=by omega
 simp only[cY,fu,jB,eE,h1];simp[hh]
theorem QX{len cap lo h:Nat}{k j:IntKind}(hl:lo≤h)(hh:h≤cap):cY len cap (some (.int k (lo:Int))) (some (.int j (h:Int)))=some (lo,h):=by
 have h1:(0:Int)≤h∧(h:Int)≤cap:=by omega
 have h2:(0:Int)≤lo∧(lo:Int)≤h:=by omega
 simp only[cY,fu,jB,eE,h1,h2];simp[hl]
structure bW(sz:Nat)(v:PV)(es:List PV):Prop where
 len:dc false v=some (.int .i64 es.length)
 get:∀(i:Nat) (h:i<es.length) (k:IntKind),cC sz v (.int k i)=some (.ref es[i].cells)
theorem tz(sz:Nat):bW sz .nils []:=⟨rfl,fun i h=>by simp at h⟩
theorem uB{sz:Nat}{tip:Option (Nat×Nat)}{es sp:List PV}(h:∀e∈es,e.cells.length=sz):bW sz (.sl tip es sp) es:=
 ⟨rfl,fun i hi k=>by
  have:=h es[i] (cr hi);simp[bX hi,this]⟩
structure ad(S0:St)(sz:Nat)(S:St)(v:PV)(es:List PV):Prop where
 grows:aN S0 S
 acc:(v=.nils∧es=[])∨∃id,S0.tips.length≤id∧v=.sl (some (id,es.length)) es []∧S.tips[id]?=some (es.length,sz)
theorem oS{S0 S:St}(sz:Nat)(h:aN S0 S):ad S0 sz S .nils []:=⟨h,.inl ⟨rfl,rfl⟩⟩
theorem rD{S0 S:St}(sz:Nat)(es:List PV)(h:aN S0 S):ad S0 sz ⟨S.objs,S.tips++[(es.length,sz)]⟩ (.sl (some (S.tips.length,es.length)) es []) es:=by
 refine⟨h.arr _,.inr ⟨S.tips.length,?_,rfl,by simp⟩⟩;obtain⟨o,t,rfl⟩:=h;simp
theorem ad.objs{S0 S:St}{sz:Nat}{v:PV}{es:List PV}(h:ad S0 sz S v es)(x:List (List PV)):ad S0 sz ⟨S.objs++x,S.tips⟩ v es:=⟨h.grows.objs x,h.acc⟩
theorem ad.arrs{S0 S:St}{sz:Nat}{v:PV}{es:List PV}(h:ad S0 sz S v es)(x:List (Nat×Nat)):ad S0 sz ⟨S.objs,S.tips++x⟩ v es:=by
 refine⟨h.grows.arrs x,?_⟩;rcases h.acc with a|⟨id,a,b,c⟩
 ·exact .inl a
 ·refine .inr ⟨id,a,b,?_⟩;have:=(aO.1 c).1;simp only;rw[bF this];exact c
theorem ad.app{S0 S:St}{sz bytes:Nat}{v:PV}{es:List PV}(h:ad S0 sz S v es)(new:List PV)(hb:(es.length+new.length)*bytes≤140737488355328) :
  ∃v' S',dF sz bytes S v new=some (v',S')∧ad S0 sz S' v' (es++new)∧S'.objs=S.objs:=by
 obtain⟨hg,ha⟩:=h
 cases new with
 |nil=>
  rcases ha with⟨rfl,rfl⟩|⟨id,hid,rfl,h2⟩
  ·exact⟨.nils,S,by simp[dF],⟨hg,.inl ⟨rfl,rfl⟩⟩,rfl⟩
  ·exact⟨_,S,by simp only[dF,List.isEmpty_nil,if_true];rfl,⟨hg,.inr ⟨id,hid,by simp,by simpa using h2⟩⟩,rfl⟩
 |cons n new=>
  rcases ha with⟨rfl,rfl⟩|⟨id,hid,rfl,h2⟩
  ·refine⟨.sl (some (S.tips.length,(n::new).length)) (n::new) [],⟨S.objs,S.tips++[((n::new).length,sz)]⟩,?_,?_,rfl⟩
   ·simp only[dF,pK,bp,if_false];rw[if_pos (by simpa using hb)];rfl
   ·have:=rD sz (n::new) hg;simpa using this
  ·refine⟨.sl (some (id,es.length+(n::new).length)) (es++n::new) [],{S with tips:=S.tips.set id (es.length+(n::new).length,sz)},?_,?_,rfl⟩
   ·simp only[dF,pK,bp,if_false];rw[if_pos ⟨h2,hb⟩]
   ·have hlt:=(aO.1 h2).1;refine⟨?_,.inr ⟨id,hid,by simp,?_⟩⟩
    ·obtain⟨o,t,rfl⟩:=hg;refine⟨o,t.set (id-S0.tips.length) (es.length+(n::new).length,sz),?_⟩;simp only[St.mk.injEq,true_and];rw[vg _ _ hid]
    ·simp[hlt]
def gu(v:PV)(es:List PV):PV:=match v with|.nils=>.nils|_=>.sl none es []
theorem ad.fin{S0 S:St}{sz:Nat}{v:PV}{es:List PV}(h:ad S0 sz S v es)(hf:PV.freeL es=true)(hz:PV.frzL es=es):ak false S0 S v=(gu v es,S0):=by
 obtain⟨hg,ha⟩:=h;rcases ha with⟨rfl,rfl⟩|⟨id,_,rfl,_⟩
 ·exact eR hg rfl
 ·rw[eR hg (by simp[PV.free,hf,PV.freeL])];simp[PV.frz,hz,gu,PV.frzL]
theorem ad.len{S0 S:St}{sz:Nat}{v:PV}{es:List PV}(h:ad S0 sz S v es):dc false v=some (.int .i64 es.length):=by
 rcases h.acc with⟨rfl,rfl⟩|⟨id,_,rfl,_⟩<;>rfl
theorem gv{α:Type}(f:α→PV)(h:∀x,(f x).free=true):∀l:List α,PV.freeL (l.map f)=true
 | []=>rfl
 |a::l=>by simp[PV.freeL,h a,gv f h l]
theorem gS{α:Type}(f:α→PV)(h:∀x,(f x).frz=f x):∀l:List α,PV.frzL (l.map f)=l.map f
 | []=>rfl
 |a::l=>by simp[PV.frzL,h a,gS f h l]
def cF(sz:Nat)(v:PV)(es:List PV):Prop:=(v=.nils∧es=[])∨∃tip sp,v=.sl tip es sp∧∀e∈es++sp,e.cells.length=sz
theorem cF.reads{sz:Nat}{v:PV}{es:List PV}(h:cF sz v es):bW sz v es:=by
 rcases h with⟨rfl,rfl⟩|⟨tip,sp,rfl,h⟩
 ·exact tz sz
 ·exact uB (fun e he=>h e (by simp[he]))
theorem cF.len{sz:Nat}{v:PV}{es:List PV}(h:cF sz v es):dc false v=some (.int .i64 es.length):=h.reads.len
theorem mo{sz:Nat}{es:List PV}(h:∀e∈es,e.cells.length=sz):iI sz es=true:=by
 cases es with
 |nil=>rfl
 |cons e es=>simp[h e (by simp)]
theorem cF.appd{sz:Nat}{v:PV}{es:List PV}(h:cF sz v es):kL sz v=some es:=by
 rcases h with⟨rfl,rfl⟩|⟨tip,sp,rfl,h⟩
 ·rfl
 ·rw[aGB,if_pos (mo (fun e he=>h e (by simp[he])))]
theorem cF.lo{sz:Nat}{v:PV}{es:List PV}(h:cF sz v es){lo:Nat}{k:IntKind}(hl:lo≤es.length):∃v',dx sz (some (.int k (lo:Int))) none v=some v'∧cF sz v' (es.drop lo):=by
 rcases h with⟨rfl,rfl⟩|⟨tip,sp,rfl,h⟩
 ·refine⟨.nils,?_,.inl ⟨rfl,by simp⟩⟩;have:lo=0:=by simpa using hl
  subst this;rw[rp,QV (by omega)]
 ·refine⟨.sl (if es.length=es.length then tip else none) (((es++sp).take es.length).drop lo) ((es++sp).drop es.length),?_,.inr ⟨if es.length=es.length then tip else none,sp,?_,?_⟩⟩
  ·rw[ry,mo h,QV hl];rfl
  ·simp
  ·intro e he;refine h e ?_;rcases bd.1 he with he|he
   ·exact pN _ (fT he)
   ·exact List.mem_append_right _ he
theorem cF.lh{sz:Nat}{v:PV}{es:List PV}(h:cF sz v es){lo hi:Nat}{k j:IntKind}(hl:lo≤hi)(hh:hi≤es.length):∃v',dx sz (some (.int k (lo:Int))) (some (.int j (hi:Int))) v=some v'∧cF sz v' ((es.take hi).drop lo):=by
 rcases h with⟨rfl,rfl⟩|⟨tip,sp,rfl,h⟩
 ·refine⟨.nils,?_,.inl ⟨rfl,by simp⟩⟩;have:hi=0:=by simpa using hh
  subst this;rw[rp,QX hl (by omega)]
 ·refine⟨.sl (if hi=es.length then tip else none) (((es++sp).take hi).drop lo) ((es++sp).drop hi),?_,.inr ⟨if hi=es.length then tip else none,(es++sp).drop hi,?_,?_⟩⟩
  ·rw[ry,mo h,QX hl (by omega)];rfl
  ·rw[jy hh]
  ·intro e he;refine h e ?_;rcases bd.1 he with he|he
   ·exact pN _ (fm (fT he))
   ·exact fT he
theorem aAM{S0 S:St}{sz:Nat}{v:PV}{es:List PV}(h:ad S0 sz S v es)(hc:∀e∈es,e.cells.length=sz):cF sz (gu v es) es:=by
 rcases h.acc with⟨rfl,rfl⟩|⟨id,_,rfl,_⟩
 ·exact .inl ⟨rfl,rfl⟩
 ·exact .inr ⟨none,[],rfl,by simpa using hc⟩
theorem ad.isSl{S0 S:St}{sz:Nat}{v:PV}{es:List PV}(h:ad S0 sz S v es)(hc:∀e∈es,e.cells.length=sz):cF sz v es:=by
 rcases h.acc with⟨rfl,rfl⟩|⟨id,_,rfl,_⟩
 ·exact .inl ⟨rfl,rfl⟩
 ·exact .inr ⟨_,[],rfl,by simpa using hc⟩
theorem appdS{S:St}{sz:Nat}{v:PV}{es:List PV}(h:kL sz v=some es):dV S sz v=some es:=by
 cases v<;>first|exact h|(simp[kL]at h)
theorem cF.appdS{S:St}{sz:Nat}{v:PV}{es:List PV}(h:cF sz v es):dV S sz v=some es:=Ps.appdS h.appd
end Ps
set_option linter.defProp false
namespace Ps
set_option linter.unusedVariables false
set_option linter.unusedSimpArgs false
open Go
def cn:aL→Bool
 |.skip=>true
 |.exit _=>true
 |.region ps=>!ps.any (fun p=>gU p.op)
 |.seq a b=>cn a&&cn b
 |.cond _ a b=>cn a&&cn b
 |.block _ b=>cn b
 |.loop b=>cn b
 |.scope b=>cn b
 |.clr _ b=>cn b
 |_=>false
def aDB{T:aQ}{call:af}:∀{k:Nat} {c:aL} {fr fr':Fr} {S S':St} {e:Ex},cn c=true→aY T call k c fr S=some (e,fr',S')→e≠.ret:=by
 intro k
 induction k with
 |zero=>intro c fr fr' S S' e _ h;simp[aY]at h
 |succ k ih=>
  intro c fr fr' S S' e hp h
  cases c with
  |skip=>simp only[aY]at h;cases h;simp
  |ret=>simp[cn]at hp
  |bad=>simp[cn]at hp
  |rng=>simp[cn]at hp
  |exit m=>simp only[aY]at h;cases h;simp
  |region ps=>
   simp only[aY]at h;split at h
   ·cases h;simp
   ·cases h
  |seq a b=>
   simp only[cn,aJ]at hp;simp only[aY]at h;split at h
   ·exact ih hp.2 h
   ·exact ih hp.1 h
  |cond x a b=>
   simp only[cn,aJ]at hp;simp only[aY]at h;split at h
   ·exact ih hp.1 h
   ·exact ih hp.2 h
   ·cases h
  |block m b=>
   simp only[cn]at hp;simp only[aY]at h;split at h
   ·split at h<;>cases h<;>simp
   ·exact ih hp h
  |loop b=>
   have hp':=hp;simp only[cn]at hp;simp only[aY]at h;split at h
   ·exact ih hp' h
   ·exact ih hp h
  |scope b=>simp only[cn]at hp;simp only[aY]at h;exact ih hp h
  |clr l b=>
   simp only[cn]at hp;simp only[aY]at h;split at h
   ·cases h;simp
   ·exact ih hp h
theorem kc{X:Tie}{n:Nat}:∀{pc:aL} {c:Code},cn pc=true→cZ X n c pc=true→cM X n c pc=true
 |.skip,c,_,h=>by cases c<;>simp_all[cZ,cM]
 |.exit m,c,_,h=>by cases c<;>simp_all[cZ,cM]
 |.region ps,c,hp,h=>by
  cases c<;>simp only[cZ]at h<;>try (cases h;done)
  simp only[cn,fy]at hp;rw[hp]at h
  simpa using h
 |.seq a b,c,hp,h=>by
  cases c<;>simp only[cZ]at h<;>try (cases h;done)
  simp only[cn,aJ]at hp h;simp only[cM,aJ]
  exact⟨kc hp.1 h.1,kc hp.2 h.2⟩
 |.cond x a b,c,hp,h=>by
  cases c<;>simp only[cZ]at h<;>try (cases h;done)
  simp only[cn,aJ]at hp h;simp only[cM,aJ]
  exact⟨⟨h.1.1,kc hp.1 h.1.2⟩,kc hp.2 h.2⟩
 |.block m b,c,hp,h=>by
  cases c<;>simp only[cZ]at h<;>try (cases h;done)
  simp only[cn]at hp;simp only[aJ]at h;simp only[cM,aJ]
  exact⟨h.1,kc hp h.2⟩
 |.loop b,c,hp,h=>by
  cases c<;>simp only[cZ]at h<;>try (cases h;done)
  simp only[cn]at hp;simp only[cM]
  exact kc hp h
 |.scope b,c,hp,h=>by
  cases c<;>simp only[cZ]at h<;>try (cases h;done)
  simp only[cn]at hp;simp only[cM]
  exact kc hp h
 |.clr l b,c,hp,h=>by
  simp only[cn]at hp;have h':cZ X n c b=true:=by cases c<;>exact h
  have:=kc hp h'
  cases c<;>exact this
 |.ret,_,hp,_=>by simp[cn]at hp
 |.bad,_,hp,_=>by simp[cn]at hp
 |.rng ..,_,hp,_=>by simp[cn]at hp
section
variable {X : Tie} {fr : Fr} {S : St}
def AW(hX:cR X){c:aL}{Post:Wx→Fr→St→Prop}(hp:cn c=true)(h:Ok (aE X.T [.code c] fr S) (Post .norm)):W X c fr S Post:=by
 obtain⟨⟨fr',S'⟩,h1,h2⟩:=h;obtain⟨k,hk⟩:=jF.1 h1;obtain⟨e,fr1,S1,h3,h4⟩:=tk X.T k c [] fr S _ hk;have hne:=aDB hp h3
 have he:e=.norm∧fr1=fr'∧S1=S':=by
  cases e with
  |norm=>
   obtain⟨i,hi,h5⟩:=h4
   cases i with
   |zero=>simp[ae]at h5
   |succ i=>
    simp only[ae,aw,bo]at h5
    exact⟨rfl,h5.1,h5.2⟩
  |exit m=>obtain⟨K',i,q1,_⟩:=h4;simp[ff]at q1
  |ret=>exact absurd rfl hne
 obtain⟨rfl,rfl,rfl⟩:=he;intro n c' hc g w a hS hF;exact(lb hX.ty hX.meth (uz hX k) hX.mixed n k).1 c' c fr S .norm fr1 S1 g w a _ (kc hp hc) hS hF h3 (fun g' w' a' k1 k2 k3=>⟨g',fr1,S1,k1,k2,k3,h2⟩)
def aDC{T:aQ}{l:List aB}{fr fr':Fr}{S S':St}(h:aE T [.ops l] fr S=some (fr',S')):ah T (aM T) l fr S=some (fr',S'):=by
 obtain⟨k,hk⟩:=jF.1 h;obtain⟨fr1,S1,i,h1,h2,h3⟩:=qw T l k [] fr S _ hk
 cases i with
 |zero=>simp[ae]at h3
 |succ i=>
  simp only[ae,aw,bo]at h3;obtain⟨rfl,rfl⟩:=h3;exact ii (qv T k) h1
def AX{T:aQ}{l:List aB}{fr:Fr}{S:St}{P:Fr→St→Prop}(h:Ok (aE T [.ops l] fr S) P):∃fr' S',ah T (aM T) l fr S=some (fr',S')∧P fr' S':=by
 obtain⟨⟨fr',S'⟩,h1,h2⟩:=h;exact⟨fr',S',aDC h1,h2⟩
def AY{l l2:List aB}{Q:Wo→Prop}(hp:l.all (fun p=>!gU p.op)=true)(h:Ok (aE X.T [.ops l] fr S) (fun fr1 S1=>cJ X l2 fr1 S1 Q)):cJ X (l++l2) fr S Q:=by
 obtain⟨fr1,S1,h1,h2⟩:=AX h;exact(rl (fun p hpm=>by have:=List.all_eq_true.1 hp p hpm;simpa using this)).2 ⟨fr1,S1,h1,h2⟩
def Sf{l:List aB}{Q:Wo→Prop}(hp:l.all (fun p=>!gU p.op)=true)(h:Ok (aE X.T [.ops l] fr S) (fun fr1 S1=>Q (.norm fr1 S1))):cJ X l fr S Q:=by
 have:=AY (X:=X) (l2:=[]) (Q:=Q) hp h
 rwa [dR]at this
def aDD{d:Option Nat}{ks:List Nat}{x:aG}{args:List aG}{l:List aB}{Q:Wo→Prop}{f:Nat}{aq:List PV}{R:Rs→Prop}(hc:jL fr x args=some (f,aq))(hs:dv X f aq S R)
  (hr:∀v S',R (.ret v S')→nQ fr ks S S'∧cJ X l (aS fr d v) S' Q)(hp:∀v S',R (.pan v S')→Q (.pan v S')):cJ X (⟨d,.wc ks x args,none⟩::l) fr S Q:=by
 simp only[cJ,bq];exact⟨f,aq,R,hc,hs,hr,hp⟩
def gy(hX:cR X){p q:aL}{Post:Wx→Fr→St→Prop}(hp:cn p=true)(h:Ok (aE X.T [.code p] fr S) (fun fr' S'=>W X q fr' S' Post)):W X (.seq p q) fr S Post:=
 nT (AW hX hp h)
def Sg(hX:cR X){p:aL}{Post:Wx→Fr→St→Prop}(hp:cn p=true)(h:Ok (aE X.T [.code p] fr S) (Post .ret)):W X (.seq p .ret) fr S Post:=
 gy hX hp (h.mono fun _ _ k=>AQ k)
def aDE(hX:cR X){p q r:aL}{x:aG}{Post:Wx→Fr→St→Prop}(hp:cn p=true)
  (h:Ok (aE X.T [.code p] fr S) (fun fr' S'=>∃b,ev fr' x=.bool b∧(b=true→W X q fr' S' (fun e fr2 S2=>match e with|.norm=>W X r fr2 S2 Post|e=>Post e fr2 S2))∧(b=false→W X r fr' S' Post))) :
  W X (.seq (.seq p (.cond x q .skip)) r) fr S Post:=by
 refine nT (nT (AW hX hp (h.mono fun fr' S' k=>?_)));obtain⟨b,e,k1,k2⟩:=k;refine AS e ?_
 cases b with
 |true=>
  refine(k1 rfl).mono fun e fr2 S2 m=>?_
  cases e<;>exact m
 |false=>exact Sc (k2 rfl)
def aDF{it en:Nat}{post:List aB}{l:List (Nat×Nat)}{b:aL}{Post:Fr→St→Prop}{N:Nat}{rem:List (PV×PV)}
  (h:∀k v rem' r,rem.Perm ((k,v)::rem')→Ok (aE X.T [.ops post] (upd (upd fr it (.hnd r)) en (.tup [k,v])) S) (fun fr2 S2=>W X b fr2 S2 (fun e fr3 S3=>e=.norm∧fr3 it=.hnd r∧nU X it en post l b Post N rem' (clrs l fr3) S3))) :
  nU X it en post l b Post (N+1) rem fr S:=by
 intro k v rem' r hp;obtain⟨fr2,S2,h1,h2⟩:=AX (h k v rem' r hp);exact⟨fr2,S2,h1,h2⟩
end
end Ps
set_option linter.defProp false
namespace Ps
open Go
def uC(T:aQ):List aL→Fr→St→Fr→St→Prop
 | [],fr,S,fr1,S1=>fr1=fr∧S1=S
 |p::ps,fr,S,fr1,S1=>∃fr2 S2,(∀K,aE T (.code p::K) fr S=aE T K fr2 S2)∧uC T ps fr2 S2 fr1 S1
def aAN{T:aQ}{p:aL}{fr fr1:Fr}{S S1:St}(h:∀K,aE T (.code p::K) fr S=aE T K fr1 S1):∃j,aY T (bH T j) j p fr S=some (.norm,fr1,S1):=by
 have dec:∀(K:List Kt) (r:Fr×St),aE T K fr1 S1=some r→∃j e fr3 S3,aY T (bH T j) j p fr S=some (e,fr3,S3)∧qx T j K r e fr3 S3:=by
  intro K r hr;obtain⟨j,hj⟩:=jF.1 ((h K).trans hr);obtain⟨e,fr3,S3,h4,h5⟩:=tk T j p K fr S r hj;exact⟨j,e,fr3,S3,h4,h5⟩
 obtain⟨j,e,fr3,S3,h2,h3⟩:=dec [] (fr1,S1) yk;refine⟨j,?_⟩
 cases e with
 |norm=>
  obtain⟨i,hi,h4⟩:=h3
  cases i with
  |zero=>simp[ae]at h4
  |succ i=>
   simp only[ae,aw,bo]at h4;obtain⟨rfl,rfl⟩:=h4
   exact h2
 |exit m=>obtain⟨K',i,q1,_⟩:=h3;simp[ff]at q1
 |ret=>
  exfalso;have e1:(fr1,S1)=(fr3,S3):=h3;obtain⟨u,hu⟩:=Yw (fr1 0)
  have hk:aE T [.ops [⟨some 0,.mov (.cst u),none⟩]] fr1 S1=some (upd fr1 0 u,S1):=by
   rw[ym];simp only[cB,aH,aW,ev,dL,vv,aS];rw[yl,yk]
  obtain⟨j',e',fr3',S3',k2,k3⟩:=dec _ _ hk;have b1:=jE (fv T (vl j j')) (vl j j') h2;have b2:=jE (fv T (vm j j')) (vm j j') k2;rw[b1]at b2;cases b2;have e2:(upd fr1 0 u,S1)=(fr3,S3):=k3;rw[←e1]at e2;have e3:=congrFun (congrArg Prod.fst e2) 0;simp[upd]at e3;exact hu e3
def aAO{T:aQ}{p:aL}{fr fr3:Fr}{S S3:St}(hg:aE T [.code p] fr S=some (fr3,S3)):∃(j:Nat) (e:Ex),aY T (bH T j) j p fr S=some (e,fr3,S3)∧(e=.norm∨e=.ret):=by
 obtain⟨j3,h3⟩:=jF.1 hg;obtain⟨e,fr6,S6,h4,h5⟩:=tk T j3 p [] fr S _ h3
 cases e with
 |norm=>
  obtain⟨i,hi,h7⟩:=h5
  cases i with
  |zero=>simp[ae]at h7
  |succ i=>
   simp only[ae,aw,bo]at h7;obtain⟨rfl,rfl⟩:=h7
   exact⟨j3,_,h4,.inl rfl⟩
 |exit m=>obtain⟨K',i,q1,_⟩:=h5;simp[ff]at q1
 |ret=>
  have:(fr3,S3)=(fr6,S6):=h5;cases this;exact⟨j3,_,h4,.inr rfl⟩
end Ps
