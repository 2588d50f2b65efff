/- A block's Select. -/
import Derived.Test.YtpjmpaidcidjgaaGreatDoorDefsKb
import Derived.Test.YtpjmpaidcidjgaaGreatDoorEHKb
import Derived.Test.YtpjmpaidcidjgaaGreatDoorBWKb
set_option linter.defProp false
namespace Ps
set_option linter.unusedSimpArgs false
set_option linter.unusedVariables false
open Go Go.Proofs
set_option maxRecDepth 100000
def aAy{S S':St}{ox:Nat}{ls:List (List aQ)}{e:Int}(h:eD S' (.ptr ox 0) ls)(hle:S.objs.length≤ox):aW false S S' (.tup [.ptr ox 0,.int .i64 e])=(.tup [.ptr ox 0,.int .i64 e],S'):=by
 obtain⟨ox',om,n0,sv,qs,kv,h1,h2,h3,h4,h5,h6⟩:=h.at_;cases h1
 have hs:ai S'.objs S.objs.length eU (.tup [.ptr ox 0,.int .i64 e])=none:=by
  show ai S'.objs S.objs.length (39+1) _=none;unfold ai
  have hp:ai S'.objs S.objs.length 39 (.ptr ox 0)=none:=by
   show ai S'.objs S.objs.length (38+1) _=none;unfold ai
   have hm:cc (ai S'.objs S.objs.length 38) [sv,.map om]=none:=by
    simp only[cc,yS];cases ai S'.objs S.objs.length 38 sv<;>rfl
   simp[PV.free,h3,hm,show ¬ox<S.objs.length by omega]
  simp[PV.free,PV.freeL,cc,hp]
 simp only[aW,cH,if_false,hs]
def qJ:aS:=(.seq (.clr [(69,74)] (.region Ac)) (.seq (.seq (.clr [(74,89)] (.region Ad)) (.cond (V 89) (.seq (.region Ae) .ret) .skip)) (.seq (.clr [(90,91)] (.region Af)) .ret)))
def RW:T2.fn 133=some (.code oN):=rfl
def ii.setsV{sv:PV}{qs:List PV}{ls:List (List aQ)}{S0 S:St}(h:ii qs ls)(hA:ah S0 1 S sv qs):yO sv ls:=⟨qs,hA.isSl h.cells,h.1,h.2⟩
def aAz{S0 S:St}{v bv sv:PV}{a:Nat}{fr:Fr}{qs:List PV}{ls:List (List aQ)}{Q:Fr→St→Prop}(hF:kK v S0.objs.length fr)(h6:fr 6=sv)(hA:ah S0 1 S sv qs)(hq:ii qs ls)(hs:∀l∈ls,l.length≤8∧lD l)(hN:ls.length≤256)
  (ho:S.objs[S0.objs.length]?=some [bv,.int .i64 (a:Int),.bool true])(k:∀fr' S',aL S0 S'→fr' 2=.nilp→fr' 3=.int .i64 5→Q fr' S'):Ok (aE T2 [.code qJ] fr S) Q:=by
 obtain⟨f0,f4⟩:=hF;obtain⟨w1,w2⟩:=ra (hq.setsV hA) (fun x hx=>⟨by have:=(hs x hx).1;unfold maxLen;omega,fun y hy=>by have:=((hs x hx).2 y hy).1;unfold maxLen;omega⟩) (by unfold maxLen;omega) S
 obtain⟨x,e,S1,hn,hg⟩:∃(x:PV) (e:Int) (S1:St),aN T2 51 [sv] S=some (.tup [x,.int .i64 e],S1)∧aL S S1:=by
  by_cases h0:dZ ls=0
  ·obtain⟨S1,n1,n2,n3⟩:=w2 h0;exact⟨_,_,S1,fv n1,n2⟩
  ·exact⟨_,_,S,fv (w1 h0),aL.refl S⟩
 have ho1:=hg.get ho;simp -implicitDefEqProofs [qJ,h6,hn,f4,bI ho1,bD];exact k _ _ (hA.grows.trans hg) (by simp) (by simp)
def aAA{S:St}{p:PV}{ls:List (List aQ)}(h:eD S p ls)(hx:gQ ls):aN T2 134 [p] S=some (.sl none (aI (cU ls)) [],S):=lm (Ft h hx)
def aAB{S0 S:St}{v bv sv:PV}{b:List UInt8}{a:Nat}{fr:Fr}{qs:List PV}{ls:List (List aQ)}{Q:Fr→St→Prop}(hv:ay 1 v (aI b))(hF:kK v S0.objs.length fr)(h6:fr 6=sv)(hA:ah S0 1 S sv qs)(hq:ii qs ls)(hs:∀l∈ls,l.length≤8∧lD l)(hN:ls.length≤256)
  (ho:S.objs[S0.objs.length]?=some [bv,.int .i64 (a:Int),.bool false])(k0:¬(dZ ls=0∧cU ls=b)→∀fr' S',aL S0 S'→fr' 2=.nilp→fr' 3=.int .i64 5→Q fr' S')
  (k1:dZ ls=0→cU ls=b→∀fr' S' ox,aL S0 S'→eD S' (.ptr ox 0) ls→S0.objs.length≤ox→fr' 2=.ptr ox 0→fr' 3=.int .i64 0→Q fr' S'):Ok (aE T2 [.code qJ] fr S) Q:=by
 obtain⟨f0,f4⟩:=hF;obtain⟨w1,w2⟩:=ra (hq.setsV hA) (fun x hx=>⟨by have:=(hs x hx).1;unfold maxLen;omega,fun y hy=>by have:=((hs x hx).2 y hy).1;unfold maxLen;omega⟩) (by unfold maxLen;omega) S;by_cases h0:dZ ls=0
 ·obtain⟨S1,n1,n2,n3⟩:=w2 h0;have n1:=fv n1;have ho1:=n2.get ho;have hby:=aAA n3 (mh h0);have t1:eX (.sl none (aI (cU ls)) [])=some (.str (cU ls)):=kC (lV _).isl;have t2:eX v=some (.str b):=kC hv.isl;by_cases hb:cU ls=b
  ·have hc:(cU ls==b)=true:=by rw[beq_iff_eq];exact hb
   simp -implicitDefEqProofs [qJ,f0,f4,h6,n1,bI ho1,bD,hby,t1,t2,hc];refine k1 h0 hb _ S1 _ (hA.grows.trans n2) n3 (by obtain⟨o,t,e⟩:=hA.grows;rw[e];simp;omega) ?_ ?_<;>simp
  ·have hc:(cU ls==b)=false:=by rw[beq_eq_false_iff_ne];exact hb
   simp -implicitDefEqProofs [qJ,f0,f4,h6,n1,bI ho1,bD,hby,t1,t2,hc];refine k0 (fun h=>hb h.2) _ S1 (hA.grows.trans n2) ?_ ?_<;>simp
 ·have n1:=fv (w1 h0);have hc:(((dZ ls:Nat):Int) != 0)=true:=by rw[bne_iff_ne];omega
  simp -implicitDefEqProofs [qJ,f0,f4,h6,n1,bI ho,bD,hc];exact k0 (fun h=>h0 h.1) _ S hA.grows (by simp) (by simp)
def RX(S:St):∃(x:PV) (e:Int) (S1:St),aN T2 51 [.nils] S=some (.tup [x,.int .i64 e],S1)∧aL S S1:=by
 obtain⟨w1,w2⟩:=ra (ls:=[]) (v:=.nils) ⟨[],.inl ⟨rfl,rfl⟩,rfl,fun i h=>by simp at h⟩ (fun x hx=>by simp at hx) (by simp) S;by_cases h0:dZ []=0
 ·obtain⟨S1,n1,n2,n3⟩:=w2 h0;exact⟨_,_,S1,fv n1,n2⟩
 ·exact⟨_,_,S,fv (w1 h0),aL.refl S⟩
def aAC{v:PV}{b:List UInt8}(hv:ay 1 v (aI b))(hb:b.length≤67108864)(S:St) :
  (hJ b=none→aN T2 133 [v] S=some (.tup [.nilp,.int .i64 5],S)) ∧
  (∀ls,hJ b=some ls→∃S' ox,aN T2 133 [v] S=some (.tup [.ptr ox 0,.int .i64 0],S')∧aL S S'∧eD S' (.ptr ox 0) ls∧dZ ls=0∧S.objs.length≤ox):=by
 obtain⟨o1,o2⟩:=hv.one
 have main:∀Q:Fr→St→Prop,(hJ b=none→∀fr' S',aL S S'→fr' 2=.nilp→fr' 3=.int .i64 5→Q fr' S')→(∀ls,hJ b=some ls→dZ ls=0→∀fr' S' ox,aL S S'→eD S' (.ptr ox 0) ls→S.objs.length≤ox→fr' 2=.ptr ox 0→fr' 3=.int .i64 0→Q fr' S') →
   Ok (aE T2 [.code oN.body] (bk [v]) S) Q:=by
  intro Q k0 k1;obtain⟨S1,hS1⟩:∃S1:St,S1=⟨S.objs++[[v,.int .i64 0,.bool false]],S.tips⟩:=⟨_,rfl⟩;have hg1:aL S S1:=by rw[hS1];exact(aL.refl S).obj _
  have ho1:S1.objs[S.objs.length]?=some [v,.int .i64 ((0:Nat):Int),.bool false]:=by rw[hS1];simp
  have hr1:=(aM.1 ho1).1
  cases hu:dt b 0 4096 with
  |none=>
   have u1:=tH hv.isl hb ho1 hu;have ho2:(irSet S1 S.objs.length v 0 true).objs[S.objs.length]?=some [v,.int .i64 ((0:Nat):Int),.bool true]:=jJ hr1;have hg2:aL S (irSet S1 S.objs.length v 0 true):=da hg1 (aU _) _;have u2:∀x,aN T2 232 [.ptr S.objs.length 0,x] (irSet S1 S.objs.length v 0 true)=some (.int .i64 0,irSet S1 S.objs.length v 0 true):=fun x=>fv (CI ho2);obtain⟨x,e,S3,hn,hg3⟩:=RX (irSet S1 S.objs.length v 0 true);have ho3:=hg3.get ho2;simp -implicitDefEqProofs [oN,aR,dx,ak,o1,o2,aG,bt,←hS1,u1];rw[ax];simp -implicitDefEqProofs [u2];rw[ax];simp -implicitDefEqProofs [hn,bI ho3,bD]
   exact k0 (by rw[hJ,hu]) _ _ (hg2.trans hg3) (by simp) (by simp)
  |some ka=>
   obtain⟨k,a⟩:=ka;have hk:=oY hu;have u1:=tG hv.isl hb ho1 hu;have ho2:(irSet S1 S.objs.length v a false).objs[S.objs.length]?=some [v,.int .i64 (a:Int),.bool false]:=jJ hr1;have hg2:aL S (irSet S1 S.objs.length v a false):=da hg1 (aU _) _;simp -implicitDefEqProofs [oN,aR,dx,ak,o1,o2,aG,bt,←hS1,u1];refine aAu (S0:=S) (v:=v) (bv:=v) (b:=b) (N:=k) hv.isl hb (by omega) k 0 a [] .nils _ _ (by omega) rfl ⟨by simp,by simp⟩ (by simp) (by simp) (by simp) (lG 1 hg2) ho2 (fun s h=>by simp at h) (fun L a1 lv fr2 S2 hL hF2 g5 hA2 ho3 hw2 hLl=>?_) (fun hL fr2 S2 hg g2 g3=>k0 (by rw[hJ,hu];simp only;rw[hL]) fr2 S2 hg g2 g3);obtain⟨e0,e4⟩:=hF2;have hr3:=(aM.1 ho3).1
   cases hu2:dt b a1 256 with
   |none=>
    have u3:=tH hv.isl hb ho3 hu2;have ho4:(irSet S2 S.objs.length v a1 true).objs[S.objs.length]?=some [v,.int .i64 (a1:Int),.bool true]:=jJ hr3;have hg4:aL S (irSet S2 S.objs.length v a1 true):=da hA2.grows (aU _) _;obtain⟨x,e,S3,hn,hg3⟩:=RX (irSet S2 S.objs.length v a1 true);have ho5:=hg3.get ho4;simp -implicitDefEqProofs [e4,u3];rw[ax];simp -implicitDefEqProofs [hn,e4,bI ho5,bD]
    exact k0 (by rw[hJ,hu];simp only;rw[hL];simp only;rw[hu2]) _ _ (hg4.trans hg3) (by simp) (by simp)
   |some na=>
    obtain⟨n,a2⟩:=na;have hn:=oY hu2;have u3:=tG hv.isl hb ho3 hu2;have ho4:(irSet S2 S.objs.length v a2 false).objs[S.objs.length]?=some [v,.int .i64 (a2:Int),.bool false]:=jJ hr3;have hg4:aL S (irSet S2 S.objs.length v a2 false):=da hA2.grows (aU _) _
    have hof:hJ b=(match gY b L n a2 []with|some (ls,_)=>if dZ ls=0∧cU ls=b then some ls else none|none=>none):=by
     rw[hJ,hu];simp only;rw[hL];simp only;rw[hu2];rfl
    simp -implicitDefEqProofs [e4,u3]
    refine aAx (S0:=S) (v:=v) (bv:=v) (lv:=lv) (b:=b) (L:=L) (N:=n) hv.isl hb (by omega) (by omega) (hA2.isSl (aAt L)) hw2 n 0 a2 [] [] .nils _ _ (by omega) rfl ⟨by simp[e0],by simp[e4]⟩ (by simp[g5]) (by simp) (by simp) (by simp) (lG 1 hg4) ⟨rfl,fun i h=>by simp at h⟩ (fun l h=>by simp at h) ho4
     (fun ls qs sv fr3 S3 a3 hl hF3 g6 hA3 hq3 hs3 ho5 hll=>?_) (fun hl ls qs sv fr3 S3 a3 hF3 g6 hA3 hq3 hs3 ho5 hll=>?_) (fun hl fr3 S3 hg g2 g3=>?_)
    ·rw[hl]at hof;simp only at hof;refine aAB hv hF3 g6 hA3 hq3 hs3 (by omega) ho5 (fun hno=>k0 (by rw[hof,if_neg hno])) (fun h1 h2=>k1 ls (by rw[hof,if_pos ⟨h1,h2⟩]) h1)
    ·rw[hl]at hof;exact aAz hF3 g6 hA3 hq3 hs3 (by omega) ho5 (k0 hof)
    ·rw[hl]at hof;exact k0 hof fr3 S3 hg g2 g3
 refine⟨fun h=>?_,fun ls h=>?_⟩
 ·refine bZ RW rfl (main _ (fun _ fr' S' hg h2 h3=>⟨[fr' 2,fr' 3],rfl,?_⟩) (fun ls h'=>by rw[h]at h';cases h'));rw[h2,h3];exact cZ hg rfl
 ·obtain⟨⟨fr',S'⟩,hgv,ox,q0,q1,q2,q3,q4,q5⟩:=main (fun fr' S'=>∃ox,dZ ls=0∧aL S S'∧eD S' (.ptr ox 0) ls∧S.objs.length≤ox∧fr' 2=.ptr ox 0∧fr' 3=.int .i64 0) (fun h'=>by rw[h]at h';cases h')
   (fun ls' h' h0 fr' S' ox g1 g2 g3 g4 g5=>by rw[h]at h';cases h';exact⟨ox,h0,g1,g2,g3,g4,g5⟩)
  refine⟨S',ox,bZ RW rfl ⟨(fr',S'),hgv,[fr' 2,fr' 3],rfl,?_⟩,q1,q2,q0,q3⟩;simp only at q4 q5;rw[q4,q5];exact aAy q2 q3
end Ps
set_option linter.defProp false
namespace Ps
set_option linter.unusedSimpArgs false
set_option linter.unusedVariables false
open Go Go.Proofs
set_option maxRecDepth 100000
def lr{b:Bool}{i o:Nat}:gD b .p (.ptr i o)=some (.bool b):=by cases b<;>rfl
def wO(pv:PV)(pss:List (List bi)):Prop:=∃es,ba 1 pv es∧es.length=pss.length∧∀(i:Nat) (h:i<pss.length) (h':i<es.length),∃qs,ba 4 es[i] qs∧fw qs pss[i]
structure jl(S:St)(xb:Nat)(ls:List (List aQ))(pss:List (List bi)):Prop where
 at_:∃ix pv,S.objs[xb]?=some [.ptr ix 0,pv]∧eD S (.ptr ix 0) ls∧wO pv pss
def jl.more{S S2:St}{xb:Nat}{ls:List (List aQ)}{pss:List (List bi)}(h:jl S xb ls pss)(hg:aL S S2):jl S2 xb ls pss:=by
 obtain⟨ix,pv,h1,h2,h3⟩:=h.at_;exact⟨ix,pv,hg.get h1,h2.more hg,h3⟩
def aAD:T2.fn 136=some (.code sR):=rfl
def aAE{S:St}{ix:Nat}{ls:List (List aQ)}(h:eD S (.ptr ix 0) ls):aN T2 136 [.ptr ix 0] S=some (.int .i64 (ls.length:Int),S):=by
 obtain⟨ox,om,n0,sv,qs,kv,h1,h2,h3,h4,h5,h6,h7,_⟩:=h.at_;cases h1
 have hl:=(h5.reads (fun e he=>by
  obtain⟨i,hi,rfl⟩:=dz he;rw[(h7 i (by omega) hi).one.2];rfl)).len
 rw[h6]at hl;refine bZ aAD rfl ?_;simp -implicitDefEqProofs [sR,lr,bI h3,bD,hl]
def aAF:T2.fn 55=some (.code z7):=rfl
def aAG:T2.fn 176=some (.code z3):=rfl
def aAH{S:St}{ix:Nat}{ls:List (List aQ)}(h:eD S (.ptr ix 0) ls){i:Nat}(hi:i<ls.length)(hb:ls[i].length≤4000000000):∃lv,aN T2 55 [.ptr ix 0,.int .i64 (i:Int)] S=some (.tup [lv,.int .i64 0],S)∧ay 2 lv (ls[i].map bH):=by
 obtain⟨ox,om,n0,sv,qs,kv,h1,h2,h3,h4,h5,h6,h7,_⟩:=h.at_;cases h1
 have hrd:=h5.reads (fun e he=>by
  obtain⟨i,hi,rfl⟩:=dz he;rw[(h7 i (by omega) hi).one.2];rfl)
 have hl:=hrd.len;rw[h6]at hl;have hiq:i<qs.length:=by omega
 have hget:=hrd.get i hiq .i64;have hsl:=h7 i hi hiq;rw[hsl.one.2]at hget;obtain⟨lv,c1,c2⟩:=FP hsl.isl hb;have c1:∀S,aN T2 130 [qs[i]] S=some (lv,S):=fun S=>fv (c1 S);have hi0:¬(i:Int)<0:=by omega
 have hi1:¬(ls.length:Int)≤(i:Int):=by omega
 refine⟨lv,?_,c2⟩;refine bZ aAF rfl ?_;simp -implicitDefEqProofs [z7,lr,bI h3,bD,hl,hi0,hi1,hget,c1]
 have:aW false S S (.tup [lv,.int .i64 0])=(.tup [lv,.int .i64 0],S):=by
  rw[cZ (aL.refl S) (by simp[PV.free,PV.freeL,c2.free])];simp[PV.frz,PV.frzL,c2.frz]
 exact this
def aAI{S:St}{xb:Nat}{ls:List (List aQ)}{pss:List (List bi)}(h:jl S xb ls pss){i:Nat}(hi:i<ls.length)(hb:ls[i].length≤4000000000):∃lv,aN T2 176 [.ptr xb 0,.int .i64 (i:Int)] S=some (.tup [lv,.int .i64 0],S)∧ay 2 lv (ls[i].map bH):=by
 obtain⟨ix,pv,h1,h2,h3⟩:=h.at_;obtain⟨lv,c1,c2⟩:=aAH h2 hi hb;refine⟨lv,?_,c2⟩;refine bZ aAG rfl ?_;simp -implicitDefEqProofs [z3,lr,bI h1,bD,c1]
 have:aW false S S (.tup [lv,.int .i64 0])=(.tup [lv,.int .i64 0],S):=by
  rw[cZ (aL.refl S) (by simp[PV.free,PV.freeL,c2.free])];simp[PV.frz,PV.frzL,c2.frz]
 exact this
def jL(ps:List bi):Nat:=(ps.map fun p=>p.2.length).sum
def fa(pss:List (List bi)):Nat:=(pss.map jL).sum
def aAJ:T2.fn 164=some (.code z9):=rfl
def qK{a b c d:PV}:bG true 4 [a,b,c,d]=some (.agg [a,b,c,d]):=rfl
def aAK{S0:St}{ps:List bi}{qs:List PV}{qv pv:PV}(hv:cM 4 qv qs)(hq:fw qs ps)(hN:ps.length≤4000000000){N i:Nat}{K:List Kt}{Q:Fr→St→Prop} :
  ∀(k j c:Nat) (fr:Fr) (S:St),j+k=ps.length→fr 3=.int .i64 (c:Int)→fr 13=pv→fr 14=.int .i64 (N:Int)→fr 15=.int .i64 (i:Int)→fr 19=qv→fr 20=.int .i64 (ps.length:Int)→fr 21=.int .i64 (j:Int)→c+jL (ps.drop j)<4611686018427387904→aL S0 S →
  (∀fr' S',fr' 3=.int .i64 ((c+jL (ps.drop j):Nat):Int)→fr' 13=pv→fr' 14=.int .i64 (N:Int)→fr' 15=.int .i64 (i:Int)→aL S0 S'→Ok (aE T2 K fr' S') Q)→Ok (aE T2 (.lp At::.blk 2::K) fr S) Q:=by
 intro k
 induction k with
 |zero=>
  intro j c fr S hjk h3 h13 h14 h15 h19 h20 h21 hc hg k1;have hj:j=ps.length:=by omega
  rw[ax];simp -implicitDefEqProofs [h20,h21,hj];refine k1 _ S ?_ (by simp[h13]) (by simp[h14]) (by simp[h15]) hg
  simp[h3,hj,jL]
 |succ k ih=>
  intro j c fr S hjk h3 h13 h14 h15 h19 h20 h21 hc hg k1;have hj:j<ps.length:=by omega
  have hji:(j:Int)<(ps.length:Int):=by omega
  have hjq:j<qs.length:=by have:=hq.1;omega
  obtain⟨bv,e,hb,_⟩:=hq.2 j hjq hj;obtain⟨o1,o2⟩:=hb.one;have hget:=hv.get j hjq .i64;rw[e]at hget
  have hd:jL (ps.drop j)=ps[j].2.length+jL (ps.drop (j+1)):=by
   rw[rM hj];simp only[jL,cb,pY]
  have hw:IntKind.i64.wrap ((c:Int)+(ps[j].2.length:Int))=((c+ps[j].2.length:Nat):Int):=by rw[au]<;>omega
  have hw1:IntKind.i64.wrap ((j:Int)+1)=((j+1:Nat):Int):=by rw[au]<;>omega
  generalize aK ps[j].2 (ps[j].2.length-1)=x2 at hget;generalize aK ps[j].2 0=x1 at hget;generalize ps[j].2.length=n at hget hd hw;rw[ax];simp -implicitDefEqProofs [h3,h13,h14,h15,h19,h20,h21,hj,hji,hget,qK,bD,aG,bt,ak,o1,o2,hw,hw1];refine ih (j+1) (c+n) _ _ (by omega) (by simp) (by simp[h13]) (by simp[h14]) (by simp[h15]) (by simp[h19]) (by simp[h20]) (by simp) (by omega) (hg.obj _) (fun fr' S' g3 g13 g14 g15 g=>k1 fr' S' ?_ g13 g14 g15 g);rw[g3,hd];congr 2;omega
def aAL{S0:St}{pss:List (List bi)}{es:List PV}{pv:PV}(hv:ba 1 pv es)(hl:es.length=pss.length)(he:∀(i:Nat)(h:i<pss.length)(h':i<es.length),∃qs,ba 4 es[i] qs∧fw qs pss[i])(hN:pss.length≤4000000000)(hN2:∀ps∈pss,ps.length≤4000000000){K:List Kt}{Q:Fr→St→Prop} :
  ∀(k i c:Nat) (fr:Fr) (S:St),i+k=pss.length→fr 3=.int .i64 (c:Int)→fr 13=pv→fr 14=.int .i64 (pss.length:Int)→fr 15=.int .i64 (i:Int)→c+fa (pss.drop i)<4611686018427387904→aL S0 S →
  (∀fr' S',fr' 3=.int .i64 ((c+fa (pss.drop i):Nat):Int)→aL S0 S'→Ok (aE T2 K fr' S') Q)→Ok (aE T2 (.lp Au::.blk 0::K) fr S) Q:=by
 intro k
 induction k with
 |zero=>
  intro i c fr S hik h3 h13 h14 h15 hc hg k1;have hi:i=pss.length:=by omega
  rw[ax];simp -implicitDefEqProofs [h14,h15,hi];refine k1 _ S ?_ hg
  simp[h3,hi,fa]
 |succ k ih=>
  intro i c fr S hik h3 h13 h14 h15 hc hg k1;have hi:i<pss.length:=by omega
  have hii:(i:Int)<(pss.length:Int):=by omega
  have hie:i<es.length:=by omega
  obtain⟨qs,hq1,hq2⟩:=he i hi hie;have hget:=hv.reads.get i hie .i64;rw[hq1.one.2]at hget;have hlen:=hq1.len;rw[hq2.1]at hlen
  have hd:fa (pss.drop i)=jL pss[i]+fa (pss.drop (i+1)):=by
   rw[rM hi];simp only[fa,cb,pY]
  have hw1:IntKind.i64.wrap ((i:Int)+1)=((i+1:Nat):Int):=by rw[au]<;>omega
  rw[ax];simp -implicitDefEqProofs [h3,h13,h14,h15,hi,hii,hget,bD,hlen]
  refine aAK (S0:=S0) (N:=pss.length) (i:=i) (pv:=pv) hq1.reads hq2 (hN2 _ (List.getElem_mem hi)) pss[i].length 0 c _ S (by omega) (by simp[h3]) (by simp[h13]) (by simp[h14]) (by simp[h15]) (by simp) (by simp) (by simp) (by rw[jz];omega) hg
   (fun fr' S' g3 g13 g14 g15 g=>?_)
  rw[jz]at g3;simp -implicitDefEqProofs [g15,hw1];refine ih (i+1) (c+jL pss[i]) _ S' (by omega) (by simp[g3]) (by simp[g13]) (by simp[g14]) (by simp) (by omega) g (fun fr2 S2 e3 e=>k1 fr2 S2 ?_ e);rw[e3,hd];congr 2;omega
def aAM{S:St}{xb:Nat}{ls:List (List aQ)}{pss:List (List bi)}(h:jl S xb ls pss)(hN:pss.length≤4000000000)(hN2:∀ps∈pss,ps.length≤4000000000)(hc:fa pss<4611686018427387904):aN T2 164 [.ptr xb 0] S=some (.int .i64 (fa pss:Int),S):=by
 obtain⟨ix,pv,h1,h2,es,h3,h4,h5⟩:=h.at_;have hlen:=h3.len;rw[h4]at hlen;refine bZ aAJ rfl ?_;simp -implicitDefEqProofs [z9,lr,bI h1,bD,hlen];refine aAL (S0:=S) h3 h4 h5 hN hN2 pss.length 0 0 _ S (by omega) (by simp) (by simp) (by simp) (by simp) (by rw[jz];omega) (aL.refl S) (fun fr' S' g3 g=>?_);rw[jz,dO]at g3;simp -implicitDefEqProofs [g3,g]
end Ps
set_option linter.defProp false
namespace Ps
set_option linter.unusedSimpArgs false
set_option linter.unusedVariables false
open Go Go.Proofs
set_option maxRecDepth 100000
def dQ(low high:Int)(x:Sm):Bool:=decide (low≤x.1)&&decide (x.1≤high)
def oZ(low high:Int)(p:bi):List Sm:=if aK p.2 (p.2.length-1)<low∨high<aK p.2 0 then []else p.2.filter (dQ low high)
def gJ(low high:Int)(ps:List bi):List Sm:=ps.flatMap (oZ low high)
def aAN:T2.fn 157=some (.code z4):=rfl
structure CK(low high:Int)(pv:PV)(n i:Nat)(fr:Fr):Prop where
 f2:fr 2=.int .i64 low
 f3:fr 3=.int .i64 high
 f38:fr 38=pv
 f39:fr 39=.int .i64 (n:Int)
 f40:fr 40=.int .i64 (i:Int)
def aAO{S0:St}{low high:Int}{pv lv:PV}{n i:Nat}{l:List Sm}(hv:cM 2 lv (l.map bC))(hl:l.length≤120){K:List Kt}{Q:Fr→St→Prop} :
  ∀(k j:Nat) (acc:List Sm) (out:PV) (fr:Fr) (S:St),j+k=l.length→acc.length+k≤4000000000→CK low high pv n i fr→fr 10=out→fr 60=lv→fr 61=.int .i64 (l.length:Int)→fr 62=.int .i64 (j:Int)→ah S0 2 S out (acc.map bC) →
  (∀out' fr' S',CK low high pv n i fr'→fr' 10=out'→ah S0 2 S' out' ((acc++(l.drop j).filter (dQ low high)).map bC)→Ok (aE T2 K fr' S') Q)→Ok (aE T2 (.lp zw::.blk 3::K) fr S) Q:=by
 intro k
 induction k with
 |zero=>
  intro j acc out fr S hjk hacc hF h10 h60 h61 h62 hA k1;have hj:j=l.length:=by omega
  rw[ax];simp -implicitDefEqProofs [h61,h62,hj];refine k1 out _ S ⟨by simp[hF.f2],by simp[hF.f3],by simp[hF.f38],by simp[hF.f39],by simp[hF.f40]⟩ (by simp[h10]) ?_
  rw[hj,EQ];simpa using hA
 |succ k ih=>
  intro j acc out fr S hjk hacc hF h10 h60 h61 h62 hA k1;obtain⟨f2,f3,f38,f39,f40⟩:=hF;have hj:j<l.length:=by omega
  have hji:(j:Int)<(l.length:Int):=by omega
  have hget:=hv.get j (by simpa using hj) .i64;have hx:((l.map bC)[j]'(by simpa using hj)).cells=[.int .i64 l[j].1,.int .i64 l[j].2]:=by simp
  rw[hx]at hget
  have hd:(l.drop j).filter (dQ low high)=(if dQ low high l[j]then [l[j]]else [])++(l.drop (j+1)).filter (dQ low high):=by
   rw[rM hj,List.filter_cons];split<;>rfl
  have hw1:IntKind.i64.wrap ((j:Int)+1)=((j+1:Nat):Int):=by rw[au]<;>omega
  have hir:dQ low high l[j]=(decide (low≤l[j].1)&&decide (l[j].1≤high)):=rfl;obtain⟨t,ht⟩:∃t,t=l[j].1:=⟨_,rfl⟩;obtain⟨u,hu⟩:∃u,u=l[j].2:=⟨_,rfl⟩;have hlj:l[j]=(t,u):=by rw[ht,hu]
  rw[←ht,←hu]at hget;rw[←ht]at hir;rw[hd,hlj]at k1;rw[hlj]at hir;have hA1:=hA.objs [[.int .i64 t,.int .i64 u]];obtain⟨out',S',a1,a2,a3⟩:=hA1.push (bytes:=16) (bC (t,u)) (by rw[bz];omega);have hsm:bC (t,u)=.agg [.int .i64 t,.int .i64 u]:=rfl;rw[hsm]at a1;by_cases c1:low≤t
  ·by_cases c2:t≤high
   ·have hin:dQ low high (t,u)=true:=by rw[hir];simp[c1,c2]
    rw[hin]at k1;rw[ax];simp -implicitDefEqProofs [f2,f3,f40,h10,h60,h61,h62,hj,hji,hget,fN,bD,aG,bt,ak,c1,c2,cY,dU,a1,hw1];refine ih (j+1) (acc++[(t,u)]) out' _ S' (by omega) (by simp;omega) ⟨by simp[f2],by simp[f3],by simp[f38],by simp[f39],by simp[f40]⟩ (by simp) (by simp[h60]) (by simp[h61]) (by simp) (by rw[eQ];exact a2) (fun o2 fr2 S2 g1 g2 g3=>k1 o2 fr2 S2 g1 g2 ?_);simpa using g3
   ·have hin:dQ low high (t,u)=false:=by rw[hir];simp[c1,c2]
    rw[hin]at k1;rw[ax];simp -implicitDefEqProofs [f2,f3,f40,h10,h60,h61,h62,hj,hji,hget,fN,bD,aG,bt,ak,c1,c2,hw1];exact ih (j+1) acc out _ _ (by omega) (by omega) ⟨by simp[f2],by simp[f3],by simp[f38],by simp[f39],by simp[f40]⟩ (by simp[h10]) (by simp[h60]) (by simp[h61]) (by simp) hA1 (fun o2 fr2 S2 g1 g2 g3=>k1 o2 fr2 S2 g1 g2 (by simpa using g3))
  ·have hin:dQ low high (t,u)=false:=by rw[hir];simp[c1]
   rw[hin]at k1;rw[ax];simp -implicitDefEqProofs [f2,f3,f40,h10,h60,h61,h62,hj,hji,hget,fN,bD,aG,bt,ak,c1,hw1];exact ih (j+1) acc out _ _ (by omega) (by omega) ⟨by simp[f2],by simp[f3],by simp[f38],by simp[f39],by simp[f40]⟩ (by simp[h10]) (by simp[h60]) (by simp[h61]) (by simp) hA1 (fun o2 fr2 S2 g1 g2 g3=>k1 o2 fr2 S2 g1 g2 (by simpa using g3))
def aAP{low high:Int}:∀{ps:List bi},(∀p∈ps,p.2.length≤120)→(gJ low high ps).length≤120*ps.length:=by
 intro ps
 induction ps with
 |nil=>intro _;simp[gJ]
 |cons p ps ih=>
  intro h;have h1:=ih fun q hq=>h q (by simp[hq])
  have h2:(oZ low high p).length≤120:=by
   unfold oZ;split
   ·simp
   ·exact Nat.le_trans (uO _ _) (h p (by simp))
  simp only[gJ,dd,am,bL]at h1 ⊢;omega
def aAQ{S0:St}{low high:Int}{pv:PV}{qs:List PV}{ps:List bi}(hv:ba 4 pv qs)(hq:fw qs ps)(hN:ps.length≤30000000){K:List Kt}{Q:Fr→St→Prop} :
  ∀(k i:Nat) (acc:List Sm) (out:PV) (fr:Fr) (S:St),i+k=ps.length→acc.length+120*k≤4000000000→CK low high pv ps.length i fr→fr 10=out→ah S0 2 S out (acc.map bC) →
  (∀out' fr' S',fr' 10=out'→ah S0 2 S' out' ((acc++gJ low high (ps.drop i)).map bC)→Ok (aE T2 K fr' S') Q)→Ok (aE T2 (.lp zx::.blk 1::K) fr S) Q:=by
 intro k
 induction k with
 |zero=>
  intro i acc out fr S hik hacc hF h10 hA k1;have hi:i=ps.length:=by omega
  rw[ax];simp -implicitDefEqProofs [hF.f39,hF.f40,hi];refine k1 out _ S (by simp[h10]) ?_
  rw[hi,EQ];simpa[gJ]using hA
 |succ k ih=>
  intro i acc out fr S hik hacc hF h10 hA k1;obtain⟨f2,f3,f38,f39,f40⟩:=hF;have hi:i<ps.length:=by omega
  have hii:(i:Int)<(ps.length:Int):=by omega
  have hiq:i<qs.length:=by have:=hq.1;omega
  obtain⟨bv,e,hb,hdp,hbl⟩:=hq.2 i hiq hi;obtain⟨o1,o2⟩:=hb.one;have hget:=hv.reads.get i hiq .i64;rw[e]at hget;have hw1:IntKind.i64.wrap ((i:Int)+1)=((i+1:Nat):Int):=by rw[au]<;>omega
  have hd:gJ low high (ps.drop i)=oZ low high ps[i]++gJ low high (ps.drop (i+1)):=by
   rw[rM hi];simp only[gJ,dd]
  rw[hd]at k1;have hdec:∀S,aN T2 265 [bv] S=some (.tup [.sl none (ps[i].2.map bC) [],.int .i64 0],S):=fun S=>by rw[RK hb (by omega) S,ji,hdp]
  obtain⟨hl1,hl2⟩:=wK hdp;have hsp:oZ low high ps[i]=if aK ps[i].2 (ps[i].2.length-1)<low∨high<aK ps[i].2 0 then []else ps[i].2.filter (dQ low high):=rfl
  generalize aK ps[i].2 (ps[i].2.length-1)=x2 at hget hsp;generalize aK ps[i].2 0=x1 at hget hsp;obtain⟨l,hl⟩:∃l,l=ps[i].2:=⟨_,rfl⟩;rw[←hl]at hget hdec hl1 hl2 hsp;have hlv:cM 2 (.sl none (l.map bC) []) (l.map bC):=tT (oD l);have hln:=hlv.len;rw[bz]at hln;obtain⟨lv,hlvd⟩:∃lv,lv=PV.sl none (l.map bC) []:=⟨_,rfl⟩;rw[←hlvd]at hdec hlv hln;have hA1:=hA.objs [[bv,.int .i64 (l.length:Int),.int .i64 x1,.int .i64 x2]];by_cases c1:x2<low
  ·rw[if_pos (.inl c1)]at hsp;rw[hsp]at k1;rw[ax];simp -implicitDefEqProofs [f2,f3,f38,f39,f40,hi,hii,hget,qK,bD,aG,bt,ak,o1,o2,c1,hw1];exact ih (i+1) acc out _ _ (by omega) (by omega) ⟨by simp[f2],by simp[f3],by simp[f38],by simp[f39],by simp⟩ (by simp[h10]) hA1 (fun o fr2 S2 g1 g2=>k1 o fr2 S2 g1 (by simpa using g2))
  ·by_cases c2:high<x1
   ·rw[if_pos (.inr c2)]at hsp;rw[hsp]at k1;rw[ax];simp -implicitDefEqProofs [f2,f3,f38,f39,f40,hi,hii,hget,qK,bD,aG,bt,ak,o1,o2,c1,c2,hw1];exact ih (i+1) acc out _ _ (by omega) (by omega) ⟨by simp[f2],by simp[f3],by simp[f38],by simp[f39],by simp⟩ (by simp[h10]) hA1 (fun o fr2 S2 g1 g2=>k1 o fr2 S2 g1 (by simpa using g2))
   ·rw[if_neg (fun h=>h.elim c1 c2)]at hsp;rw[hsp]at k1;rw[ax];simp -implicitDefEqProofs [f2,f3,f38,f39,f40,hi,hii,hget,qK,bD,aG,bt,ak,o1,o2,c1,c2,hdec,hln];refine aAO (S0:=S0) (low:=low) (high:=high) (pv:=pv) (lv:=lv) (n:=ps.length) (i:=i) hlv hl2 l.length 0 acc out _ _ (by omega) (by omega) ⟨by simp[f2],by simp[f3],by simp[f38],by simp[f39],by simp[f40]⟩ (by simp[h10]) (by simp) (by simp) (by simp) hA1 (fun out' fr' S' gF g10 gA=>?_);obtain⟨e2,e3,e38,e39,e40⟩:=gF;rw[jz]at gA;simp -implicitDefEqProofs [e40,hw1];refine ih (i+1) (acc++l.filter (dQ low high)) out' _ S' (by omega) ?_ ⟨by simp[e2],by simp[e3],by simp[e38],by simp[e39],by simp⟩ (by simp[g10]) gA (fun o fr2 S2 g1 g2=>k1 o fr2 S2 g1 (by simpa using g2));have:=uO (dQ low high) l;simp only[am];omega
def tI{S:St}{xb:Nat}{ls:List (List aQ)}{pss:List (List bi)}(h:jl S xb ls pss){i:Nat}(hi:i<pss.length)(hN:pss.length≤4000000000)(hN2:pss[i].length≤30000000){low high:Int} :
  ∃v',aN T2 157 [.ptr xb 0,.int .i64 (i:Int),.int .i64 low,.int .i64 high] S=some (.tup [v',.int .i64 0],S)∧ay 2 v' ((gJ low high pss[i]).map bC):=by
 obtain⟨ix,pv,h1,h2,es,h3,h4,h5⟩:=h.at_;have hlen:=h3.len;rw[h4]at hlen;have hie:i<es.length:=by omega
 obtain⟨qs,q1,q2⟩:=h5 i hi hie;have hget:=h3.reads.get i hie .i64;rw[q1.one.2]at hget;have hql:=q1.len;rw[q2.1]at hql;have hi0:¬(i:Int)<0:=by omega
 have hi1:¬(pss.length:Int)≤(i:Int):=by omega
 have main:∀Q:Fr→St→Prop,(∀out fr' S',ah S 2 S' out ((gJ low high pss[i]).map bC)→fr' 8=out→fr' 9=.int .i64 0→Q fr' S')→Ok (aE T2 [.code z4.body] (bk [.ptr xb 0,.int .i64 (i:Int),.int .i64 low,.int .i64 high]) S) Q:=by
  intro Q k1;simp -implicitDefEqProofs [z4,lr,bI h1,bD,hlen,hi0,hi1,hget,hql];refine aAQ (S0:=S) (low:=low) (high:=high) q1 q2 hN2 pss[i].length 0 [] .nils _ S (by omega) (by simp;omega) ⟨by simp,by simp,by simp,by simp,by simp⟩ (by simp) (lG 2 (aL.refl S)) (fun out' fr' S' g10 gA=>?_);rw[jz,mT]at gA;simp -implicitDefEqProofs [g10];exact k1 out' _ S' gA (by simp) (by simp)
 obtain⟨⟨fr',S'⟩,hgv,out,hA,g8,g9⟩:=main (fun fr' S'=>∃out,ah S 2 S' out ((gJ low high pss[i]).map bC)∧fr' 8=out∧fr' 9=.int .i64 0) (fun out fr' S' a b c=>⟨out,a,b,c⟩);obtain⟨f1,f2⟩:=hA.sl0 (oD _) (pk _) (oC _);refine⟨jo out ((gJ low high pss[i]).map bC),bZ aAN rfl ⟨(fr',S'),hgv,[fr' 8,fr' 9],rfl,?_⟩,f2⟩;simp only at g8 g9;rw[g8,g9];show aW false S S' (.tup [out,.int .i64 0])=_;rcases hA.acc with⟨rfl,e⟩|⟨id,_,rfl,_⟩
 ·exact cZ hA.grows rfl
 ·rw[cZ hA.grows (by simp[PV.free,PV.freeL,pk])];simp[PV.frz,PV.frzL,oC,jo]
end Ps
