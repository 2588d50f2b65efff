/- Samples of a dA: whether they may be; the label sets of series. -/
import Derived.Test.YtpjmpaidcidjgaaGreatDoorAbbKt
import Derived.Test.YtpjmpaidcidjgaaGreatDoorBBKt
import Derived.Test.YtpjmpaidcidjgaaGreatDoorCWKt
set_option linter.defProp false
namespace Ps
set_option linter.unusedSimpArgs false
set_option linter.unusedVariables false
open Go
def RK:T.fn 260=some (.code oq):=rfl
def fM(t v:Int):Bool:=decide (0≤t)&&decide (t≤1099511627776)&&decide (-1152921504606846976≤v)&&decide (v≤1152921504606846976)
def uJ(t v:Int):PV:=.agg [.int .i64 t,.int .i64 v]
def RL(t v:Int)(S:St):aS T 260 [uJ t v] S=some (.bool (fM t v),S):=by
 refine cM RK rfl ?_;have hp1:∀(a:PV) (m:List PV),ap false 1 (a::m)=some a:=fun a m=>by simp[ap]
 simp -implicitDefEqProofs [oq,uJ,aH,hp1,fM]
def RM:T.fn 270=some (.code ol):=rfl
def RN:T.fn 342=some (.code z35):=rfl
def gN(k:IntKind)(a b:Int):Int:=k.wrap (BitVec.ofInt k.bits a ^^^ BitVec.ofInt k.bits b).toNat
@[simp]def aDh{k:IntKind}{a b:Int}:arith .xor (.int k a) (.int k b)=some (.int k (gN k a b)):=by simp[arith,eN,fO,gN]
def RO{a:Int}:arith .shr (.int .u32 a) (.int .u64 1)=some (.int .u32 (a.fdiv 2)):=rfl
def jd(c:Int):Int:=gN .u32 (c.fdiv 2) (ja .u32 2197175160 (IntKind.u32.wrap (-ja .u32 c 1)))
def lW:Nat→Int→Int
 |0,c=>c
 |n+1,c=>lW n (jd c)
def gP(c:Int)(b:UInt8):Int:=lW 8 (gN .u32 c (IntKind.u32.wrap (b.toNat:Int)))
def oY(s:List UInt8):Int:=s.foldl gP 4294967295
def ir(s:List UInt8):Int:=IntKind.u32.wrap (BitVec.ofInt 32 4294967295 ^^^ BitVec.ofInt 32 (oY s)).toNat
def q1{a:PV}{m:List PV}:ap false 1 (a::m)=some a:=by simp[ap]
def RP{o:List (List PV)}{c:Int}{t:List (Nat×Nat)}:aS T 342 [.ptr o.length 0] ⟨o++[[.int .u32 c]],t⟩=some (.tup [],⟨o++[[.int .u32 (jd c)]],t⟩):=by
 refine cM RN rfl ?_;have ho:(o++[[PV.int .u32 c]])[o.length]?=some [.int .u32 c]:=by simp
 simp -implicitDefEqProofs [z35,aH,xW,q1,RO,ho,bB];rw[sF];exact tP (b:=false) (S:=⟨o++[[.int .u32 c]],t⟩) (S1:=⟨o++[[.int .u32 (jd c)]],t⟩) (r:=.tup []) (by simp) rfl rfl rfl (fun _ _=>jL)
def RQ{v:PV}{o:List (List PV)}{t:List (Nat×Nat)}{K:List Kt}{Q:Fr→St→Prop}:∀(n j:Nat),n+j=8→∀(fr:Fr) (c:Int),fr 4=.fn 342 [.ptr o.length 0]→fr 18=.int .i64 (j:Int) →
  (∀fr',fr' 3=fr 3→fr' 4=fr 4→fr' 8=fr 8→fr' 9=fr 9→fr' 10=fr 10→Ok (aF T K fr' ⟨o++[[.int .u32 (lW n c)]],t⟩) Q) →
  Ok (aF T (.lp rK::.blk 2::K) fr ⟨o++[[.int .u32 c]],t⟩) Q:=by
 intro n
 induction n with
 |zero=>
  intro j hj fr c h4 h18 k;have hj:j=8:=by omega
  subst hj;rw[bH];simp -implicitDefEqProofs [h18]
  exact k _ (by simp) (by simp) (by simp) (by simp) (by simp)
 |succ n ih=>
  intro j hj fr c h4 h18 k;have hlt:(j:Int)<8:=by omega
  have hw:=qX (a:=j) (by omega)
  have hL:∀fr',fr' 3=fr 3→fr' 4=fr 4→fr' 8=fr 8→fr' 9=fr 9→fr' 10=fr 10→fr' 18=.int .i64 ((j+1:Nat):Int)→Ok (aF T (.lp rK::.blk 2::K) fr' ⟨o++[[.int .u32 (jd c)]],t⟩) Q:=by
   intro fr' g3 g4 g8 g9 g10 g18;exact ih (j+1) (by omega) fr' (jd c) (by rw[g4,h4]) g18 (fun fr2 q3 q4 q8 q9 q10=>k fr2 (q3.trans g3) (q4.trans g4) (q8.trans g8) (q9.trans g9) (q10.trans g10))
  clear k ih;rw[bH];simp -implicitDefEqProofs [h18,h4,hlt,qU,RP];exact hL _ (by simp) (by simp[h4]) (by simp) (by simp) (by simp) (by simp[hw])
def RR{s:List UInt8}{v:PV}(hv:cn 1 v (aJ s))(hs:s.length≤67108864){o:List (List PV)}{t:List (Nat×Nat)}{K:List Kt}{Q:Fr→St→Prop}:∀(rest pre:List UInt8),s=pre++rest→∀(fr:Fr) (c:Int),
  fr 3=.ptr o.length 0→fr 4=.fn 342 [.ptr o.length 0]→fr 8=v→fr 9=.int .i64 s.length→fr 10=.int .i64 (pre.length:Int) →
  (∀fr',fr' 3=.ptr o.length 0→Ok (aF T K fr' ⟨o++[[.int .u32 (rest.foldl gP c)]],t⟩) Q) →
  Ok (aF T (.lp rL::.blk 0::K) fr ⟨o++[[.int .u32 c]],t⟩) Q:=by
 intro rest
 induction rest with
 |nil=>
  intro pre hp fr c h3 h4 h8 h9 h10 k;rw[dn]at hp;subst hp;rw[bH];simp -implicitDefEqProofs [h9,h10]
  exact k _ (by simp[h3])
 |cons b rest ih=>
  intro pre hp fr c h3 h4 h8 h9 h10 k;have hi:pre.length<s.length:=by rw[hp];simp
  have hg:=hv.get pre.length (by rw[bo];exact hi) .i64;have hgx:(aJ s)[pre.length]'(by rw[bo];exact hi)=.int .u8 b.toNat:=by simp[aJ,hp]
  rw[hgx,Py]at hg;have hw:=qX (a:=pre.length) (by omega)
  have hL:∀fr',fr' 3=.ptr o.length 0→fr' 4=.fn 342 [.ptr o.length 0]→fr' 8=v→fr' 9=.int .i64 s.length→fr' 10=.int .i64 ((pre.length+1:Nat):Int)→Ok (aF T (.lp rL::.blk 0::K) fr' ⟨o++[[.int .u32 (gP c b)]],t⟩) Q:=by
   intro fr' g3 g4 g8 g9 g10;exact ih (pre++[b]) (by simp[hp]) fr' _ g3 g4 g8 g9 (by simpa using g10) k
  clear k ih;have ho:(o++[[PV.int .u32 c]])[o.length]?=some [.int .u32 c]:=by simp
  rw[bH];simp -implicitDefEqProofs [-Ur,h3,h8,h9,h10,hi,hg,q1,aH,xW,ho,bB];simp -implicitDefEqProofs;refine RQ (v:=v) 8 0 rfl _ _ (by simp[h4]) (by simp) (fun fr' g3 g4 g8 g9 g10=>?_);simp at g3 g4 g8 g9 g10;simp -implicitDefEqProofs [g10,h10];exact hL _ (by simp[g3,h3]) (by simp[g4,h4]) (by simp[g8,h8]) (by simp[g9,h9]) (by simp[hw])
def RS{s:List UInt8}{v:PV}(hv:cn 1 v (aJ s))(hs:s.length≤67108864)(S:St):aS T 270 [v] S=some (.int .u32 (ir s),S):=by
 have hlen:=hv.len;rw[bo]at hlen;refine cM RM rfl ?_;simp -implicitDefEqProofs [ol,aH,cR,bB,hlen];refine RR hv hs (o:=S.objs) (t:=S.tips) s [] rfl _ _ (by simp) (by simp) (by simp) (by simp) (by simp) (fun fr' g3=>?_);simp -implicitDefEqProofs [g3,xW,q1];have hg:aV S ⟨S.objs++[[.int .u32 (s.foldl gP 4294967295)]],S.tips⟩:=(aV.refl S).obj _;rw[NZ hg];rfl
end Ps
set_option linter.defProp false
namespace Ps
set_option linter.unusedSimpArgs false
set_option linter.unusedVariables false
open Go
def jp{T:aM}{body:aN}{K:List Kt}{Q:Fr→St→Prop}(n:Nat)(P:Nat→Fr→St→Prop)
  (round:∀i fr S,i<n→P i fr S→(∀fr' S',P (i+1) fr' S'→Ok (aF T (.lp body::K) fr' S') Q)→Ok (aF T (.lp body::K) fr S) Q)
  (done:∀fr S,P n fr S→Ok (aF T (.lp body::K) fr S) Q) (i:Nat) (hi:i≤n) (fr:Fr) (S:St) (h:P i fr S):Ok (aF T (.lp body::K) fr S) Q:=by
 obtain⟨k,hk⟩:∃k,n-i=k:=⟨_,rfl⟩
 induction k generalizing i fr S with
 |zero=>
  have:i=n:=by omega
  subst this
  exact done fr S h
 |succ k ih=>exact round i fr S (by omega) h (fun fr' S' h'=>ih (i+1) (by omega) fr' S' h' (by omega))
def Mi{fr:Fr}{S:St}{t n:Nat}{ag:Bool}:hI fr S (.cell t ag n)=cO S ag n (fr t):=by
 simp only[hI,cO];cases fr t<;>rfl
def VE{S S1 S2:St}{r v:PV}{fr:Fr}{raw ag:Bool}{t n:Nat}(h:cO S1 ag n (fr t)=some v)(k:ac raw S S1 v=(r,S2)):km [.cell t ag n] raw S r S2 fr S1:=
 ⟨[v],by simp only[bb,Mi,h],k⟩
def VF{S S1 S2:St}{r v w:PV}{fr:Fr}{raw ag:Bool}{t n u:Nat}(h:cO S1 ag n (fr t)=some v)(hu:fr u=w)(k:ac raw S S1 (.tup [v,w])=(r,S2)):km [.cell t ag n,.tmp u] raw S r S2 fr S1:=
 ⟨[v,w],by subst hu;rw[←Mi]at h;simp only[bb,h];rfl,k⟩
structure bM(sz:Nat)(v:PV)(es:List PV):Prop where
 val:(v=.nils∧es=[])∨∃sp,v=.sl none es sp∧(∀e∈sp,e.cells.length=sz)∧PV.freeL sp=true∧PV.frzL sp=sp
 sz:∀e∈es,e.cells.length=sz
 fr:PV.freeL es=true
 fz:PV.frzL es=es
def bM.reads{sz:Nat}{v:PV}{es:List PV}(h:bM sz v es):cn sz v es:=by
 rcases h.val with⟨rfl,rfl⟩|⟨sp,rfl,_⟩
 ·exact xX sz
 ·exact xY h.sz
def bM.isl{sz:Nat}{v:PV}{es:List PV}(h:bM sz v es):cU sz v es:=by
 rcases h.val with⟨rfl,rfl⟩|⟨sp,rfl,hs,_⟩
 ·exact .inl ⟨rfl,rfl⟩
 ·exact .inr ⟨none,sp,rfl,fun e he=>(bn.1 he).elim (h.sz e) (hs e)⟩
def bM.len{sz:Nat}{v:PV}{es:List PV}(h:bM sz v es):dl false v=some (.int .i64 es.length):=h.reads.len
def bM.free{sz:Nat}{v:PV}{es:List PV}(h:bM sz v es):v.free=true:=by
 rcases h.val with⟨rfl,rfl⟩|⟨sp,rfl,_,hf,_⟩
 ·rfl
 ·simp[PV.free,h.fr,hf]
def bM.frz{sz:Nat}{v:PV}{es:List PV}(h:bM sz v es):v.frz=v:=by
 rcases h.val with⟨rfl,rfl⟩|⟨sp,rfl,_,_,hz⟩
 ·rfl
 ·simp[PV.frz,h.fz,hz]
def bM.one{sz:Nat}{v:PV}{es:List PV}(h:bM sz v es):v.one=true∧v.cells=[v]:=by
 rcases h.val with⟨rfl,rfl⟩|⟨sp,rfl,_⟩<;>exact⟨rfl,rfl⟩
def bM.appd{sz:Nat}{v:PV}{es:List PV}(h:bM sz v es)(S:St):dS S sz v=some es:=by
 rcases h.val with⟨rfl,rfl⟩|⟨sp,rfl,_⟩
 ·rfl
 ·rw[aCZ,if_pos (nZ h.sz)]
def kg(sz:Nat):bM sz .nils []:=⟨.inl ⟨rfl,rfl⟩,by simp,rfl,rfl⟩
def nP{sz:Nat}{es:List PV}(h:∀e∈es,e.cells.length=sz)(hf:PV.freeL es=true)(hz:PV.frzL es=es):bM sz (.sl none es []) es:=⟨.inr ⟨[],rfl,by simp,rfl,rfl⟩,h,hf,hz⟩
def bI.sl0{S0 S:St}{sz:Nat}{v:PV}{es:List PV}(h:bI S0 sz S v es)(hs:∀e∈es,e.cells.length=sz)(hf:PV.freeL es=true)(hz:PV.frzL es=es) :
  ac false S0 S v=(js v es,S0)∧bM sz (js v es) es:=by
 refine⟨h.fin hf hz,?_,hs,hf,hz⟩;rcases h.acc with⟨rfl,rfl⟩|⟨id,_,rfl,_⟩
 ·exact .inl ⟨rfl,rfl⟩
 ·exact .inr ⟨[],rfl,by simp,rfl,rfl⟩
def bI.push{S0 S:St}{sz bytes:Nat}{v:PV}{es:List PV}(h:bI S0 sz S v es)(e:PV)(hb:(es.length+1)*bytes≤140737488355328) :
  ∃v' S',dT sz bytes ⟨S.objs,S.tips++[(1,sz)]⟩ v [e]=some (v',S')∧bI S0 sz S' v' (es++[e])∧S'.objs=S.objs:=by
 obtain⟨v',S',h1,h2,h3⟩:=(h.arrs [(1,sz)]).app (bytes:=bytes) [e] (by simpa using hb);exact⟨v',S',h1,h2,h3⟩
def nQ(v:PV)(k:Nat):PV:=match v with|.sl _ es sp=>.sl none (es.take k) (es.drop k++sp)|_=>.nils
def bM.slc{v:PV}{es:List PV}(h:bM 1 v es){k:Nat}(hk:k≤es.length){j:IntKind}:dk 1 none (some (.int j (k:Int))) v=some (nQ v k)∧bM 1 (nQ v k) (es.take k):=by
 have fzd:∀{l m:List PV},PV.frzL l=l→(∀(i:Nat) (x:PV),m[i]?=some x→∃j:Nat,l[j]?=some x)→PV.frzL m=m:=by
  intro l m hl hm;rw[fS]at hl ⊢
  have key:∀x∈l,x.frz=x:=by
   intro x hx;obtain⟨i,hi⟩:=fm hx;have e:=congrArg (fun l=>l[i]?) hl;simp only[fk,hi,ip,ae]at e;exact e
  have:m.map PV.frz=m.map id:=qi fun x hx=>by
   obtain⟨i,hi⟩:=fm hx;obtain⟨q,hq⟩:=hm i x hi;exact key x (ct hq)
  rw[this,tf]
 rcases h.val with⟨rfl,rfl⟩|⟨sp,rfl,hs,hf,hz⟩
 ·have:k=0:=by simpa using hk
  subst this;exact⟨by rw[tL,sH (by omega)];rfl,kg 1⟩
 ·have hsz:∀e∈es++sp,e.cells.length=1:=fun e he=>(bn.1 he).elim (h.sz e) (hs e);refine⟨?_,.inr ⟨es.drop k++sp,rfl,?_,?_,?_⟩,fun e he=>h.sz e (jV he),jQ fun v hv=>di h.fr v (jV hv),fzd h.fz fun i x hx=>?_⟩
  ·rw[tM,nZ hsz,sH (by omega)];simp only[tT,bg,if_false,nQ,oM,ae];rw[jW hk,tW hk];split<;>rfl
  ·intro e he;rcases bn.1 he with he|he
   ·exact h.sz e (fo he)
   ·exact hs e he
  ·refine jQ fun v hv=>?_;rcases bn.1 hv with hv|hv
   ·exact di h.fr v (fo hv)
   ·exact di hf v hv
  ·have e1:PV.frzL (es.drop k)=es.drop k:=fzd h.fz fun i x hx=>⟨k+i,by rw[gK]at hx;exact hx⟩;rw[fS]at e1 hz ⊢;rw[dp,e1,hz]
  ·obtain⟨q,hq⟩:=fm (jV (ct hx));exact⟨q,hq⟩
def kh:PV→Option Nat
 |.osl id _ _ _=>some id
 |_=>none
structure ri(S0:St)(sz:Nat)(S:St)(v:PV)(es:List PV):Prop where
 acc:((v=.emp∨v=.nils)∧es=[])∨∃id,S0.objs.length≤id∧v=.osl id 0 es.length sz∧S.objs[id]?=some (es.flatMap PV.cells)∧es≠[]
 ok:∀e∈es,e.cells.length=sz∧e.cells.all PV.one=true
theorem wv{sz:Nat}:∀{es:List PV},(∀e∈es,e.cells.length=sz)→(es.flatMap PV.cells).length=es.length*sz
 | [],_=>by simp
 |e::es,h=>by
  rw[dB,ak,h e (by simp),wv (fun x hx=>h x (by simp[hx])),bE,cu];omega
def Mj{es:List PV}(h:∀e∈es,e.cells.all PV.one=true):(es.flatMap PV.cells).all PV.one=true:=by
 rw[List.all_eq_true];intro x hx;obtain⟨e,he,hxe⟩:=List.mem_flatMap.1 hx;exact(List.all_eq_true.1 (h e he)) x hxe
def ri.app{S0 S:St}{sz bytes:Nat}{v:PV}{es new:List PV}(h:ri S0 sz S v es)(hg:aV S0 S)(hsz:0<sz)(hn:∀e∈new,e.cells.length=sz∧e.cells.all PV.one=true)(hb:(es.length+new.length)*bytes≤140737488355328) :
  ∃v' S',gD sz bytes S v new=some (v',S')∧ri S0 sz S' v' (es++new)∧aV S0 S'∧S'.tips=S.tips∧S.objs.length≤S'.objs.length ∧
   (∀i x,S.objs[i]?=some x→kh v≠some i→S'.objs[i]?=some x)∧(∀i,kh v'=some i→i<S.objs.length→kh v=some i)∧(v≠.nils→v'≠.nils):=by
 have hok:∀e∈es++new,e.cells.length=sz∧e.cells.all PV.one=true:=fun e he=>by
  rcases bn.1 he with he|he
  ·exact h.ok e he
  ·exact hn e he
 obtain⟨o0,t0,rfl⟩:=hg;unfold gD
 cases new with
 |nil=>
  rcases h.acc with⟨hv|hv,rfl⟩|⟨id,h1,rfl,h2,h3⟩
  ·subst hv;exact⟨.emp,_,rfl,⟨.inl ⟨.inl rfl,rfl⟩,by simp⟩,⟨o0,t0,rfl⟩,rfl,aR _,fun _ _ h _=>h,fun i h=>(by cases h),fun h=>h⟩
  ·subst hv;exact⟨.nils,_,rfl,⟨.inl ⟨.inr rfl,rfl⟩,by simp⟩,⟨o0,t0,rfl⟩,rfl,aR _,fun _ _ h _=>h,fun i h=>(by cases h),fun h=>h⟩
  ·exact⟨_,_,by simp,⟨.inr ⟨id,h1,by simp,by simpa using h2,by simpa using h3⟩,hok⟩,⟨o0,t0,rfl⟩,rfl,aR _,fun _ _ h _=>h,fun i h _=>h,fun h=>h⟩
 |cons a new=>
  have hS:∀(x:List PV) (i:Nat) (y:List PV),(S0.objs++o0)[i]?=some y→((S0.objs++o0)++[x])[i]?=some y:=fun x i y h=>by
   rw[aw (aL.1 h).1];exact h
  simp only[qf,bg,if_false]
  have fresh:es=[]→∃v' S',(if(a::new).length*bytes≤140737488355328 then some (jm ⟨S0.objs++o0,S0.tips++t0⟩ sz (a::new))else none)=some (v',S')∧ri S0 sz S' v' (es++a::new)∧aV S0 S'∧S'.tips=S0.tips++t0∧(S0.objs++o0).length≤S'.objs.length ∧
   (∀i x,(S0.objs++o0)[i]?=some x→kh v≠some i→S'.objs[i]?=some x)∧(∀i,kh v'=some i→i<(S0.objs++o0).length→kh v=some i)∧(v≠.nils→v'≠.nils):=by
   intro he;subst he;rw[if_pos (by simpa using hb)];refine⟨_,_,rfl,⟨.inr ⟨(S0.objs++o0).length,by simp,by simp,by simp,by simp⟩,hok⟩,⟨o0++[(a::new).flatMap PV.cells],t0,by simp[jm]⟩,rfl,by simp[jm],fun i x h _=>hS _ i x h,fun i h hlt=>?_,fun _ e=>by cases e⟩;simp only[jm,kh,ae]at h;omega
  rcases h.acc with⟨hv|hv,he⟩|⟨id,h1,rfl,h2,h3⟩
  ·subst hv;exact fresh he
  ·subst hv;exact fresh he
  ·have hlt:=(aL.1 h2).1;have hfl:=wv (fun e he=>(h.ok e he).1)
   have hpos:0<(es.flatMap PV.cells).length:=by
    rw[hfl];have:0<es.length:=by cases es<;>simp at h3 ⊢
    exact Nat.mul_pos this hsz
   have htk:(es.flatMap PV.cells).take (es.length*sz)=es.flatMap PV.cells:=jX (by rw[hfl];exact aR _);simp only at h2;simp only[h2];rw[if_pos ⟨trivial,trivial,hpos,by rw[hfl];exact aR _,by rw[htk];exact Mj (fun e he=>(h.ok e he).2),hb⟩,htk];refine⟨_,_,rfl,⟨.inr ⟨(S0.objs++o0).length,by simp,by simp,by simp,by simp⟩,hok⟩,⟨o0.set (id-S0.objs.length) []++[es.flatMap PV.cells++(a::new).flatMap PV.cells],t0,?_⟩,rfl,by simp,fun i x hx hne=>?_,fun i hi hlt2=>?_,fun _ e=>by cases e⟩
   ·simp only[St.mk.injEq,and_true];rw[tj _ _ h1,eh]
   ·have hne':i≠id:=fun e=>hne (by rw[e];rfl);rw[aw (by simp;have:=(aL.1 hx).1;simpa using this),bq (Ne.symm hne')];exact hx
   ·simp only[kh,ae]at hi;omega
theorem ww{objs:List (List PV)}{n0 k:Nat}:∀{l:List PV},PV.freeL l=true→cD (aj objs n0 (k+1)) l=some l
 | [],_=>rfl
 |a::l,h=>by
  simp only[PV.freeL,aI]at h;simp only[cD,oG h.1,ww h.2]
theorem Mk{sz:Nat}(hsz:2≤sz):∀{l:List (List PV)},(∀c∈l,c.length=sz)→∀{r:List PV},dA sz l.length (l.flatten++r)=l.map .agg
 | [],_,r=>rfl
 |c::l,h,r=>by
  have hc:=h c (by simp);simp only[bE,dA,List.flatten_cons,cB,eh];rw[jW (by omega),jX (by omega),tW (by omega),zM (by omega),zT];rw[Mk hsz (fun x hx=>h x (by simp[hx]))]
  congr 1
  unfold nM;split
  ·rename_i a;simp at hc;omega
  ·rfl
theorem Ml:∀{l r:List PV},dA 1 l.length (l++r)=l
 | [],r=>rfl
 |c::l,r=>by
  simp only[bE,dA,ij,List.take_succ_cons,List.take_zero,List.drop_succ_cons,oM];rw[Ml];rfl
def Mm{objs:List (List PV)}{n0 k id n sz:Nat}{cs ds es:List PV}(hn:n0≤id)(hs:0<sz)(hc:objs[id]?=some cs)(hl:cs.length=n*sz)(ho:cs.all PV.one=true)(hm:cD (aj objs n0 k) cs=some ds)(he:dA sz n ds=es) :
  aj objs n0 (k+1) (.osl id 0 n sz)=some (.sl none es []):=by
 unfold aj;have htk:cs.take (n*sz)=cs:=jX (by omega);simp only[PV.free,bg,if_false,hn,hs,and_self,if_true,hc,cd,oM,htk,ho,hl,aR,hm,he]
def VG{objs:List (List PV)}{n0 k:Nat}:aj objs n0 (k+1) .emp=some (.sl none [] []):=by
 unfold aj;simp[PV.free]
end Ps
set_option linter.defProp false
namespace Ps
set_option linter.unusedSimpArgs false
set_option linter.unusedVariables false
open Go
abbrev Sm:=Int×Int
def bJ(x:Sm):PV:=uJ x.1 x.2
@[simp]def zl(x:Sm):(bJ x).cells=[.int .i64 x.1,.int .i64 x.2]:=rfl
def uK(l:List Sm):PV.freeL (l.map bJ)=true:=ju bJ (fun _=>rfl) l
def qu(l:List Sm):PV.frzL (l.map bJ)=l.map bJ:=jv bJ (fun _=>rfl) l
def RT(l:List Sm):∀e∈l.map bJ,e.cells.length=2:=by
 intro e he;obtain⟨x,_,rfl⟩:=List.mem_map.1 he;rfl
def RU:T.fn 154=some (.code pJ):=rfl
def cw(l:List Sm)(i:Nat)(h:i<l.length):Nat:=
 if fM l[i].1 l[i].2=false then 11 else if h0:0<i then(if l[i].1≤l[i-1].1 then 13 else 0)else 0
def ce(l:List Sm)(i:Nat):Nat:=
 if h:i<l.length then(if cw l i h=0 then ce l (i+1)else cw l i h)else 0
termination_by l.length-i
def eS(l:List Sm):Nat:=if l.length=0∨120<l.length then 2 else ce l 0
def RV{l:List Sm}{v:PV}(hv:cn 2 v (l.map bJ))(hl:l.length≤120){K:List Kt}{Q:Fr→St→Prop}{S0:St}:∀(n i:Nat),l.length-i=n→i≤l.length→∀(fr:Fr) (S:St),
  fr 0=v→fr 13=v→fr 14=.int .i64 l.length→fr 15=.int .i64 i→aV S0 S→(ce l i=0→∀fr' S',aV S0 S'→Ok (aF T K fr' S') Q) →
  (ce l i≠0→∀fr' S',aV S0 S'→fr' 2=.int .i64 (ce l i)→Q fr' S')→Ok (aF T (.lp rV::.blk 0::K) fr S) Q:=by
 intro n
 induction n with
 |zero=>
  intro i hni hil fr S h0 h8 h9 h10 hg k1 k2;have hi:i=l.length:=by omega
  have hc:ce l i=0:=by rw[ce,dif_neg (by omega)]
  rw[bH];simp -implicitDefEqProofs [h0,h8,h9,h10,hi]
  exact k1 hc _ _ hg
 |succ n ih=>
  intro i hni hil fr S h0 h8 h9 h10 hg k1 k2;have hi:i<l.length:=by omega
  have hget:=hv.get i (by simpa using hi) .i64;have hx:(l.map bJ)[i]'(by simpa using hi)=bJ l[i]:=by simp
  rw[hx,zl]at hget;have hmay:∀S,aS T 260 [.agg [.int .i64 l[i].1,.int .i64 l[i].2]] S=some (.bool (fM l[i].1 l[i].2),S):=fun S=>RL l[i].1 l[i].2 S;have hw:IntKind.i64.wrap ((i:Int)+1)=((i+1:Nat):Int):=by rw[bT]<;>omega
  have hpo:∀{a b:PV},ap true 2 [a,b]=some (.agg [a,b]):=fun {a b}=>rfl;have hp1:∀{a:PV} {m:List PV},ap false 1 (a::m)=some a:=fun {a m}=>by simp[ap]
  rw[ce,dif_pos hi]at k1 k2
  have hL:cw l i hi=0→∀fr' S',fr' 0=v→fr' 13=v→fr' 14=.int .i64 l.length→fr' 15=.int .i64 ((i+1:Nat):Int)→aV S0 S'→Ok (aF T (.lp rV::.blk 0::K) fr' S') Q:=by
   intro hz fr' S' g0 g8 g9 g10 gg;rw[if_pos hz]at k1 k2;exact ih (i+1) (by omega) (by omega) fr' S' g0 g8 g9 g10 gg k1 k2
  have hR:∀(e:Nat),e≠0→cw l i hi=e→∀fr' S',fr' 2=.int .i64 e→aV S0 S'→Q fr' S':=by
   intro e he hz fr' S' g2 gg;rw[if_neg (by rw[hz];exact he),hz]at k2;exact k2 he fr' S' gg g2
  clear k1 k2 ih;by_cases hi0:0<i
  ·have hgetp:=hv.get (i-1) (by simp;omega) .i64;have hxp:(l.map bJ)[i-1]'(by simp;omega)=bJ l[i-1]:=by simp
   rw[hxp,zl]at hgetp;have hsub:IntKind.i64.wrap ((i:Int)-1)=((i-1:Nat):Int):=by rw[bT]<;>omega
   rw[bH];simp -implicitDefEqProofs [h0,h8,h9,h10,hi,hget,hpo,hp1,hmay,hi0,hgetp,hsub,aH,bB];refine cF (fun a1=>hU (hR 11 (by decide) ?_ _ _ (by simp) (hg.obj _))) (fun a1=>cF (fun a4=>hU (hR 13 (by decide) ?_ _ _ (by simp) (hg.obj _))) (fun a4=>hL ?_ _ _ (by simp[h0]) (by simp[h8]) (by simp[h9]) (by simp[hw]) (hg.obj _)))
   ·rw[cw,if_pos (by simpa using a1)]
   ·rw[cw,if_neg (by simpa using a1),dif_pos hi0,if_pos (by simpa using a4)]
   ·rw[cw,if_neg (by simpa using a1),dif_pos hi0,if_neg (by simpa using a4)]
  ·rw[bH];simp -implicitDefEqProofs [h0,h8,h9,h10,hi,hget,hpo,hp1,hmay,hi0,aH,bB];refine cF (fun a1=>hU (hR 11 (by decide) ?_ _ _ (by simp) (hg.obj _))) (fun a1=>hL ?_ _ _ (by simp[h0]) (by simp[h8]) (by simp[h9]) (by simp[hw]) (hg.obj _))
   ·rw[cw,if_pos (by simpa using a1)]
   ·rw[cw,if_neg (by simpa using a1),dif_neg hi0]
def zm{l:List Sm}{v:PV}(hv:cn 2 v (l.map bJ))(S:St):aS T 154 [v] S=some (.int .i64 (eS l),S):=by
 have hlen:=hv.len;rw[dN]at hlen;refine cM RU rfl ?_;simp -implicitDefEqProofs [pJ,hlen];refine cF (fun a=>?_) (fun a=>?_)
 ·have h:eS l=2:=by
   rw[eS,if_pos ?_];simp only[gJ,beq_iff_eq,decide_eq_true_eq]at a;omega
  simp[h]
 ·have h:¬(l.length=0∨120<l.length):=by
   simp only[Bool.or_eq_false_iff,beq_eq_false_iff_ne,decide_eq_false_iff_not,ne_eq]at a;omega
  have hn:eS l=ce l 0:=by rw[eS,if_neg h]
  refine RV hv (by omega) l.length 0 (by omega) (by omega) _ S (by simp) (by simp) (by simp) (by simp) (aV.refl S) (fun hz fr' S' gg=>?_) (fun hz fr' S' gg g2=>?_)
  ·simp[gg,hn,hz]
  ·simp[gg,g2,hn]
abbrev cA:=List ad×List Sm
def iK(v:PV)(s:cA):Prop:=∃lv sv,v=.agg [lv,sv]∧bM 2 lv (s.1.map az)∧bM 2 sv (s.2.map bJ)
def iu(v:PV)(l:List cA):Prop:=∃es,bM 2 v es∧es.length=l.length∧∀(i:Nat) (h:i<l.length) (h':i<es.length),iK es[i] l[i]
def zn(v:PV)(l:List (List ad)):Prop:=∃es,cU 1 v es∧es.length=l.length∧∀(i:Nat) (h:i<l.length) (h':i<es.length),cU 2 es[i] (l[i].map az)
def cU.one{sz:Nat}{v:PV}{es:List PV}(h:cU sz v es):v.one=true∧v.cells=[v]:=by
 rcases h with⟨rfl,rfl⟩|⟨tip,sp,rfl,_⟩<;>exact⟨rfl,rfl⟩
def RW:T.fn 153=some (.code nJ):=rfl
def zo{l:List cA}{v:PV}(hv:iu v l)(hl:l.length≤256)(S:St):∃v',aS T 153 [v] S=some (v',S)∧zn v' (l.map (·.1)):=by
 obtain⟨es,hes,hlen,hser⟩:=hv;have hvl:=hes.len;rw[hlen]at hvl
 have main:∀Q:Fr→St→Prop,(∀fr S' v' qs,bI S 1 S' v' qs→qs.length=l.length→(∀(i:Nat) (h:i<l.length) (h':i<qs.length),bM 2 qs[i] (l[i].1.map az))→fr 2=v'→Q fr S') →
   Ok (aF T [.code nJ.body] (bX [v]) S) Q:=by
  intro Q hQ;simp -implicitDefEqProofs [nJ,hvl];refine jp l.length (fun i fr S'=>fr 6=v∧fr 7=.int .i64 l.length∧fr 8=.int .i64 i∧∃qs,bI S 1 S' (fr 3) qs∧qs.length=i∧∀(j:Nat) (h:j<l.length) (h':j<qs.length),bM 2 qs[j] (l[j].1.map az)) ?_ ?_ 0 (by omega) _ _ ⟨by simp,by simp,by simp,[],by simpa using Nc 1 (aV.refl S),rfl,fun j h h'=>by simp at h'⟩
  ·rintro i fr S' hi ⟨h6,h7,h8,qs,ha,hq,hqs⟩ k;have hie:i<es.length:=by omega
   obtain⟨lv,sv,he,hlv,hsv⟩:=hser i hi hie;have hget:=hes.reads.get i hie .i64;rw[he]at hget;have hw:IntKind.i64.wrap ((i:Int)+1)=((i+1:Nat):Int):=by rw[bT]<;>omega
   have hpo:∀{a b:PV},ap true 2 [a,b]=some (.agg [a,b]):=fun {a b}=>rfl;have hp1:∀{a:PV} {m:List PV},ap false 1 (a::m)=some a:=fun {a m}=>by simp[ap]
   obtain⟨o1,o2⟩:=hlv.one;obtain⟨s1,s2⟩:=hsv.one;have hc0:(PV.agg [lv,sv]).cells=[lv,sv]:=rfl;rw[hc0]at hget;have hn:PV.nils.cells=[.nils]:=rfl;obtain⟨v',S2,a1,a2,a3⟩:=(ha.objs [[lv,sv]]).push (bytes:=24) lv (by omega);rw[bH];simp -implicitDefEqProofs [h6,h7,h8,hi,hget,hpo,hp1,aH,bB,hc0,hn,o1,o2,s1,s2,cx,eP,a1];refine k _ _ ?_;refine⟨by simp[h6],by simp[h7],by simp[hw],qs++[lv],by simpa using a2,by simp[hq],fun j h h'=>?_⟩;simp only[ak,bE,cP]at h';by_cases hj:j<qs.length
   ·rw[List.getElem_append_left hj];exact hqs j h hj
   ·have:j=i:=by omega
    subst this;rw[List.getElem_append_right (by omega)];simpa[hq]using hlv
  ·rintro fr S' ⟨h6,h7,h8,qs,ha,hq,hqs⟩;rw[bH];simp -implicitDefEqProofs [h6,h7,h8];exact hQ _ _ _ qs ha hq hqs (by simp)
 obtain⟨⟨fr,S'⟩,hg,v',qs,ha,hq,hqs,h2⟩:=main (fun fr S'=>∃v' qs,bI S 1 S' v' qs∧qs.length=l.length∧(∀(i:Nat) (h:i<l.length) (h':i<qs.length),bM 2 qs[i] (l[i].1.map az))∧fr 2=v') (fun fr S' v' qs h1 h2 h3 h4=>⟨v',qs,h1,h2,h3,h4⟩);simp only at h2 ha;subst h2
 have hfree:PV.freeL qs=true:=jQ fun x hx=>by
  obtain⟨i,hi,rfl⟩:=iF hx;exact(hqs i (by omega) hi).free
 have hfrz:PV.frzL qs=qs:=by
  rw[fS]
  have:qs.map PV.frz=qs.map id:=qi fun x hx=>by
   obtain⟨i,hi,rfl⟩:=iF hx;exact(hqs i (by omega) hi).frz
  rw[this,tf]
 have hcells:∀e∈qs,e.cells.length=1:=fun x hx=>by
  obtain⟨i,hi,rfl⟩:=iF hx;rw[(hqs i (by omega) hi).one.2];rfl
 obtain⟨f1,f2⟩:=ha.sl0 hcells hfree hfrz;refine⟨js (fr 2) qs,cM RW rfl ⟨(fr,S'),hg,[fr 2],rfl,f1⟩,qs,f2.isl,by simpa using hq,fun i h h'=>?_⟩;simp only[dN]at h;simpa using (hqs i h h').isl
end Ps
