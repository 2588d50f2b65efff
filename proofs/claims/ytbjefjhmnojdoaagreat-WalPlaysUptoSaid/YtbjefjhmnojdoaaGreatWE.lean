/- Bytes of a record: the program's. -/
import Derived.Test.YtbjefjhmnojdoaaGreatDefs
import Derived.Test.YtbjefjhmnojdoaaGreatWB
import Derived.Test.YtbjefjhmnojdoaaGreatLM
set_option linter.defProp false
namespace Ps
set_option linter.unusedSimpArgs false
set_option linter.unusedVariables false
open Go
def aLt:T.fn 241=some (.code qu):=rfl
def aLu:T.fn 326=some (.code qX):=rfl
def aLv:T.fn 242=some (.code qv):=rfl
def aLw:T.fn 327=some (.code qY):=rfl
def dX(v:Int):Nat:=if v<0 then(-2*v-1).toNat else(2*v).toNat
def aLx{v:Int}(h1:-1152921504606846976≤v)(h2:v≤1152921504606846976):eu T 241 [.int .i64 v]=some (.int .i64 (dX v:Nat)):=by
 refine iH ?_ rfl rfl;refine aW aLt rfl ?_;by_cases h:v<0
 ·have hz:(dX v:Int) = -2*v-1:=by unfold dX;rw[if_pos h];omega
  have w1:IntKind.i64.wrap (-2*v) = -2*v:=bJ (by omega) (by omega);have w2:IntKind.i64.wrap (-2*v-1) = -2*v-1:=bJ (by omega) (by omega);rw[hz];simp -implicitDefEqProofs [qu,h,w1,w2]
 ·have hz:(dX v:Int)=2*v:=by unfold dX;rw[if_neg h];omega
  have w1:IntKind.i64.wrap (2*v)=2*v:=bJ (by omega) (by omega);rw[hz];simp -implicitDefEqProofs [qu,h,w1]
def aLy{v:Int}(h1:-1152921504606846976≤v)(h2:v≤1152921504606846976):eu T 326 [.int .i64 v]=some (.int .i64 (dX v:Nat)):=by
 refine iH ?_ rfl rfl;refine aW aLu rfl ?_;by_cases h:v<0
 ·have hz:(dX v:Int) = -2*v-1:=by unfold dX;rw[if_pos h];omega
  have w1:IntKind.i64.wrap (-2*v) = -2*v:=bJ (by omega) (by omega);have w2:IntKind.i64.wrap (-2*v-1) = -2*v-1:=bJ (by omega) (by omega);rw[hz];simp -implicitDefEqProofs [qX,h,w1,w2]
 ·have hz:(dX v:Int)=2*v:=by unfold dX;rw[if_neg h];omega
  have w1:IntKind.i64.wrap (2*v)=2*v:=bJ (by omega) (by omega);rw[hz];simp -implicitDefEqProofs [qX,h,w1]
def qH{v:Int}(h1:-1152921504606846976≤v)(h2:v≤1152921504606846976):dX v<9223372036854775808:=by
 unfold dX;split<;>omega
def bB.grow{S0 S S1:St}{sz:Nat}{v:PV}{es:List PV}(h:bB S0 sz S v es)(g:aP S S1):bB S0 sz S1 v es:=by
 refine⟨h.grows.trans g,?_⟩;rcases h.acc with a|⟨id,a,b,c⟩
 ·exact .inl a
 ·exact .inr ⟨id,a,b,g.tip c⟩
def sQ(prev:Int):List Int→Prop
 | []=>True
 |n::l=>prev≤n∧n≤1099511627776∧sQ n l
def aLz:∀(l:List Int) (p:Int),de (some p) l=0→sQ p l:=by
 intro l
 induction l with
 |nil=>intro p _;trivial
 |cons n l ih=>
  intro p h;rw[kR]at h;by_cases a:n<0∨1099511627776<n
  ·rw[if_pos a]at h;cases h
  ·rw[if_neg a]at h;by_cases b:n≤p
   ·rw[if_pos (by simpa using b)]at h;cases h
   ·rw[if_neg (by simpa using b)]at h;exact⟨by omega,by omega,ih n h⟩
def qI{l:List Int}(h:ec l=0):l.length≤1024∧sQ 0 l:=by
 unfold ec at h;by_cases c:1024<l.length
 ·rw[if_pos c]at h;cases h
 ·rw[if_neg c]at h;refine⟨by omega,?_⟩
  cases l with
  |nil=>trivial
  |cons n l=>
   rw[kR]at h;by_cases a:n<0∨1099511627776<n
   ·rw[if_pos a]at h;cases h
   ·rw[if_neg a,if_neg (by simp)]at h;exact⟨by omega,by omega,aLz l n h⟩
def fH(prev:Int):List Int→List UInt8
 | []=>[]
 |n::l=>aN (n-prev).toNat++fH n l
def vh(p n:Int)(l:List Int):fH p (n::l)=aN (n-p).toNat++fH n l:=rfl
def ck(l:List Int):List UInt8:=aN l.length++fH 0 l
def FT:∀(l:List Int) (p:Int),0≤p→sQ p l→(fH p l).length≤9*l.length:=by
 intro l
 induction l with
 |nil=>intro p _ _;simp[fH]
 |cons n l ih=>
  intro p hp h;obtain⟨h1,h2,h3⟩:=h;have a:=ih n (by omega) h3;have b:=cu (n:=(n-p).toNat) (by omega);rw[vh,List.length_append,bV];omega
def aLA{l:List Int}{vl:PV}(hv:bT 1 vl (nV l))(hl:l.length≤1024){S0:St}{K:List Kt}{Q:Fr→St→Prop}:∀(r p:List Int) (s:List UInt8) (d:Int),l=p++r→0≤d→d≤1099511627776→sQ d r→s.length+9*r.length≤67100000→∀(fr:Fr) (S:St),
  fr 24=vl→fr 25=.int .i64 l.length→fr 26=.int .i64 p.length→fr 9=.int .i64 d→bB S0 1 S (fr 7) (aL s) →
  (∀fr' S',bB S0 1 S' (fr' 7) (aL (s++fH d r))→S'.objs=S.objs→Ok (aJ T K fr' S') Q) →
  Ok (aJ T (.lp Bk::.blk 0::K) fr S) Q:=by
 intro r
 induction r with
 |nil=>
  intro p s d e hd0 hd1 hasc hs fr S h24 h25 h26 h9 ha k;rw[cI]at e;subst e;rw[af];simp -implicitDefEqProofs [h24,h25,h26]
  exact k _ _ (by simpa[fH]using ha) rfl
 |cons n r ih=>
  intro p s d e hd0 hd1 hasc hs fr S h24 h25 h26 h9 ha k;obtain⟨c1,c2,c3⟩:=hasc;have hlt:p.length<l.length:=by rw[e];simp
  have hg:=jP hv e (k:=.i64);have hw:=dR (a:=p.length) (by omega);have hw2:IntKind.i64.wrap (n-d)=n-d:=bJ (by omega) (by omega);have hnd:(((n-d).toNat:Nat):Int)=n-d:=by omega
  simp only[bV]at hs;have hu:=cu (n:=(n-d).toNat) (by omega);obtain⟨v1,S1,a1,a2,a3⟩:=oE (n:=(n-d).toNat) (ha.isSl (gn _)) (by omega) (by omega) ha.grows;rw[hnd]at a1;rw[af];simp -implicitDefEqProofs [h24,h25,h26,h9,hlt,hg,ba,hw2,a1,hw];refine ih (p++[n]) (s++aN (n-d).toNat) n (by simp[e]) (by omega) c2 c3 (by simp only[List.length_append];omega) _ S1 (by simp[h24]) (by simp[h25]) (by simp[hw]) (by simp) (by simpa using a2) (fun fr' S' h h2=>k fr' S' ?_ (by rw[h2,a3]));rw[vh,←iv];exact h
def aLB{l:List Int}{vl:PV}(hv:bT 1 vl (nV l))(hl:l.length≤1024){S0:St}{K:List Kt}{Q:Fr→St→Prop}:∀(r p:List Int) (s:List UInt8) (d:Int),l=p++r→0≤d→d≤1099511627776→sQ d r→s.length+9*r.length≤67100000→∀(fr:Fr) (S:St),
  fr 0=vl→fr 5=.int .i64 p.length→fr 4=.int .i64 d→bB S0 1 S (fr 3) (aL s) →
  (∀fr' S',bB S0 1 S' (fr' 3) (aL (s++fH d r))→Ok (aJ T K fr' S') Q) →
  Ok (aJ T (.lp Ap::.blk 0::K) fr S) Q:=by
 have hlen:=hv.len;rw[gS]at hlen;intro r
 induction r with
 |nil=>
  intro p s d e hd0 hd1 hasc hs fr S h0 h5 h4 ha k;rw[cI]at e;subst e;rw[af];simp -implicitDefEqProofs [h0,h5,hlen]
  exact k _ _ (by simpa[fH]using ha)
 |cons n r ih=>
  intro p s d e hd0 hd1 hasc hs fr S h0 h5 h4 ha k;obtain⟨c1,c2,c3⟩:=hasc;have hlt:p.length<l.length:=by rw[e];simp
  have hg:=jP hv e (k:=.i64);have hw:=dR (a:=p.length) (by omega);have hw2:IntKind.i64.wrap (n-d)=n-d:=bJ (by omega) (by omega);have hnd:(((n-d).toNat:Nat):Int)=n-d:=by omega
  simp only[bV]at hs;have hu:=cu (n:=(n-d).toNat) (by omega);obtain⟨v1,S1,a1,a2,a3⟩:=kh (n:=(n-d).toNat) (by omega) (aP.refl S);rw[hnd]at a1;obtain⟨v2,S2,b1,b2,b3⟩:=(ha.grow a2.grows).app (bytes:=1) (aL (aN (n-d).toNat)) (by rw[bO,bO];omega);rw[←fc]at b2;rw[af];simp -implicitDefEqProofs [h0,h5,h4,hlen,hlt,hg,ba,hw2,a1,(a2.isSl (gn _)).appdS,b1,hw];refine ih (p++[n]) (s++aN (n-d).toNat) n (by simp[e]) (by omega) c2 c3 (by simp only[List.length_append];omega) _ S2 (by simp[h0]) (by simp[hw]) (by simp) (by simpa using b2) (fun fr' S' h=>k fr' S' ?_);rw[vh,←iv];exact h
def aLC{b:List UInt8}{l:List Int}{v vl:PV}(hb:bG 1 v (aL b))(hbl:b.length≤4194304)(hv:bT 1 vl (nV l))(hr:ec l=0)(S:St) :
  ∃v',aO T 242 [v,vl] S=some (.tup [v',.int .i64 0],S)∧fF v' (b++ck l):=by
 obtain⟨hl,hasc⟩:=qI hr;have c1:=Yi hv S;rw[hr]at c1;have hlen:=hv.len;rw[gS]at hlen;obtain⟨v1,S1,a1,a2,a3⟩:=oE hb (n:=l.length) (by omega) (by omega) (aP.refl S);have hu:=cu (n:=l.length) (by omega);have key:=eB (T:=T) (f:=242) (c:=qv) aLv (args:=[v,vl]) (S:=S) rfl (R:=fun r S2=>S2=S∧∃v',r=.tup [v',.int .i64 0]∧fF v' (b++ck l)) ?_
 ·obtain⟨r,S2,h1,rfl,v',rfl,h2⟩:=key;exact⟨v',h1,h2⟩
 have c1':aO T 318 [vl] S=some (.int .i64 0,S):=c1;simp -implicitDefEqProofs [qv,c1',hlen,a1];refine aLA hv hl (S0:=S) l [] (b++aN l.length) 0 rfl (by omega) (by omega) hasc (by simp only[List.length_append];omega) _ S1 (by simp) (by simp) (by simp) (by simp) (by simpa using a2) (fun fr' S' ha _=>?_);have he:b++aN l.length++fH 0 l=b++ck l:=by simp[ck]
 rw[he]at ha
 have hf:(fr' 7).free=true∧(fr' 7).frz=bo (fr' 7) (aL (b++ck l)):=by
  rcases ha.acc with⟨h,_⟩|⟨id,_,h,_⟩
  ·rw[h];exact⟨rfl,rfl⟩
  ·rw[h];exact⟨by simp[PV.free,kf,PV.freeL],by simp[bo,PV.frz,kg,PV.frzL]⟩
 have hfin:ac false S S' (.tup [fr' 7,.int .i64 0])=(.tup [bo (fr' 7) (aL (b++ck l)),.int .i64 0],S):=by
  rw[cN ha.grows (by simp[PV.free,PV.freeL,hf.1])];simp[PV.frz,PV.frzL,hf.2]
 simp[hfin];exact jK ha
def aLD{l:List Int}{vl:PV}(hv:bT 1 vl (nV l))(hr:ec l=0)(S:St) :
  ∃v',aO T 327 [vl] S=some (v',S)∧fF v' (ck l):=by
 obtain⟨hl,hasc⟩:=qI hr;have hlen:=hv.len;rw[gS]at hlen;obtain⟨v1,S1,a1,a2,a3⟩:=kh (n:=l.length) (by omega) (aP.refl S);have hu:=cu (n:=l.length) (by omega);have key:=eB (T:=T) (f:=327) (c:=qY) aLw (args:=[vl]) (S:=S) rfl (R:=fun r S2=>S2=S∧fF r (ck l)) ?_
 ·obtain⟨r,S2,h1,rfl,h2⟩:=key;exact⟨r,h1,h2⟩
 simp -implicitDefEqProofs [qY,hlen,a1];refine aLB hv hl (S0:=S) l [] (aN l.length) 0 rfl (by omega) (by omega) hasc (by omega) _ S1 (by simp) (by simp) (by simp) (by simpa using a2) (fun fr' S' ha=>?_);have ha':bB S 1 S' (fr' 3) (aL (ck l)):=ha;have hfin:=ha'.fin (kf _) (kg _);simp[hfin];exact jK ha'
end Ps
set_option linter.defProp false
namespace Ps
set_option linter.unusedSimpArgs false
set_option linter.unusedVariables false
open Go
def Yk:T.fn 254=some (.code mO):=rfl
def AG:T.fn 142=some (.code ka):=rfl
def mi(x:cg):Prop:=0≤x.1∧x.1≤1099511627776∧jQ x.2.1 x.2.2=true
def aLE:∀(l:List cg),ky l=0→∀x∈l,mi x:=by
 intro l
 induction l with
 |nil=>intro _ x hx;cases hx
 |cons y l ih=>
  intro h x hx;rw[FS]at h;by_cases a:y.1<0∨1099511627776<y.1
  ·rw[if_pos a]at h;cases h
  ·rw[if_neg a]at h
   cases b:jQ y.2.1 y.2.2 with
   |false=>rw[b,if_pos rfl]at h;cases h
   |true=>
    rw[b,if_neg (by decide)]at h;rcases cX.1 hx with rfl|hx
    ·exact⟨by omega,by omega,b⟩
    ·exact ih h x hx
def sR{t v:Int}(h:jQ t v=true):0≤t∧t≤1099511627776 ∧ -1152921504606846976≤v∧v≤1152921504606846976:=by
 unfold jQ at h;simp only[aV,decide_eq_true_eq]at h;omega
def dY(x:cg):List UInt8:=aN x.1.toNat++aN x.2.1.toNat++aN (dX x.2.2)
def bW(r:bq):List UInt8:=aN r.kind.toNat++(if r.kind=1 then ew r.labs else if r.kind=2 then aN r.rows.length++r.rows.flatMap dY else ck r.ids++aN r.low.toNat++aN r.high.toNat)
def aLF{x:cg}(h:mi x):(dY x).length≤27:=by
 obtain⟨h1,h2,h3⟩:=h;obtain⟨m1,m2,m3,m4⟩:=sR h3;have a:=cu (n:=x.1.toNat) (by omega);have b:=cu (n:=x.2.1.toNat) (by omega);have c:=cu (n:=dX x.2.2) (qH m3 m4);unfold dY;simp only[List.length_append];omega
def aLG{l:List cg}{vr:PV}(hv:bT 3 vr (l.map dC))(hl:l.length≤64)(hok:∀x∈l,mi x){c0 c1 c3 c4 c5:PV}(hal:([c0,c1,vr,c3,c4,c5]:List PV).all PV.one=true){S0:St}{K:List Kt}{Q:Fr→St→Prop}:∀(r p:List cg) (s:List UInt8),l=p++r→s.length+27*r.length≤67100000→∀(fr:Fr) (S:St),
  fr 1=.ref [c0,c1,vr,c3,c4,c5]→fr 6=.int .i64 p.length→bB S0 1 S (fr 5) (aL s) →
  (∀fr' S',bB S0 1 S' (fr' 5) (aL (s++r.flatMap dY))→Ok (aJ T K fr' S') Q) →
  Ok (aJ T (.lp CC::.blk 1::K) fr S) Q:=by
 have hlen:=hv.len;rw[List.length_map]at hlen;intro r
 induction r with
 |nil=>
  intro p s e hs fr S h1 h6 ha k;rw[cI]at e;subst e;rw[af];simp -implicitDefEqProofs [h1,h6,hlen,ba]
  exact k _ _ (by simpa using ha)
 |cons x r ih=>
  intro p s e hs fr S h1 h6 ha k;have hlt:p.length<l.length:=by rw[e];simp
  have hg:=sP hv e (k:=.i64);have hw:=dR (a:=p.length) (by omega);have hx:=hok x (by rw[e];simp);obtain⟨x1,x2,x3⟩:=hx;obtain⟨m1,m2,m3,m4⟩:=sR x3;simp only[bV]at hs;have hz:=aLy m3 m4;have u1:=cu (n:=x.1.toNat) (by omega);have u2:=cu (n:=x.2.1.toNat) (by omega);have u3:=cu (n:=dX x.2.2) (qH m3 m4);have n1:((x.1.toNat:Nat):Int)=x.1:=by omega
  have n2:((x.2.1.toNat:Nat):Int)=x.2.1:=by omega
  obtain⟨v1,S1,a1,a2,a3⟩:=kh (n:=x.1.toNat) (by omega) (aP.refl S);rw[n1]at a1;obtain⟨v2,S2,b1,b2,b3⟩:=(ha.grow a2.grows).app (bytes:=1) (aL (aN x.1.toNat)) (by rw[bO,bO];omega);rw[←fc]at b2;obtain⟨v3,S3,c1,c2,c3⟩:=kh (n:=x.2.1.toNat) (by omega) (aP.refl S2);rw[n2]at c1;obtain⟨v4,S4,d1,d2,d3⟩:=(b2.grow c2.grows).app (bytes:=1) (aL (aN x.2.1.toNat)) (by rw[bO,bO,List.length_append];omega);rw[←fc]at d2;obtain⟨v5,S5,e1,e2,e3⟩:=kh (n:=dX x.2.2) (qH m3 m4) (aP.refl S4);obtain⟨v6,S6,f1,f2,f3⟩:=(d2.grow e2.grows).app (bytes:=1) (aL (aN (dX x.2.2))) (by rw[bO,bO];simp only[List.length_append];omega);rw[←fc]at f2;rw[af];simp -implicitDefEqProofs [h1,h6,hlen,hlt,hg,ba,hw,a1,(a2.isSl (gn _)).appdS,b1,c1,(c2.isSl (gn _)).appdS,d1,hz,e1,(e2.isSl (gn _)).appdS,f1]
  refine ih (p++[x]) (s++aN x.1.toNat++aN x.2.1.toNat++aN (dX x.2.2)) (by simp[e]) (by simp only[List.length_append];omega) _ S6 (by simp[h1]) (by simp[hw]) (by simpa using f2) (fun fr' S' h=>k fr' S' ?_);simpa[dY]using h
def vj{S S':St}{v:PV}{b:List UInt8}(ha:bB S 1 S' v (aL b)):ac false S S' (.tup [v,.int .i64 0])=(.tup [bo v (aL b),.int .i64 0],S):=by
 have hf:v.free=true∧v.frz=bo v (aL b):=by
  rcases ha.acc with⟨h,_⟩|⟨id,_,h,_⟩
  ·rw[h];exact⟨rfl,rfl⟩
  ·rw[h];exact⟨by simp[PV.free,kf,PV.freeL],by simp[bo,PV.frz,kg,PV.frzL]⟩
 rw[cN ha.grows (by simp[PV.free,PV.freeL,hf.1])];simp[PV.frz,PV.frzL,hf.2]
def FU{r:bq}(h:cH r=0):(r.kind=1∧eV r.labs=0)∨(r.kind=2∧hY r.rows=0)∨(r.kind=3∧ec r.ids=0∧0≤r.low∧r.low≤r.high∧r.high≤1099511627776):=by
 unfold cH at h;by_cases a:r.kind=1∧r.rows.length=0∧r.ids.length=0∧r.low=0∧r.high=0
 ·rw[if_pos a]at h;exact .inl ⟨a.1,h⟩
 rw[if_neg a]at h;by_cases b:r.kind=2∧r.labs.length=0∧r.ids.length=0∧r.low=0∧r.high=0
 ·rw[if_pos b]at h;exact .inr (.inl ⟨b.1,h⟩)
 rw[if_neg b]at h;by_cases c:r.kind=3∧r.labs.length=0∧r.rows.length=0
 ·rw[if_pos c]at h;unfold qG at h;by_cases d:ec r.ids=0
  ·rw[if_neg (by simpa using d)]at h;by_cases e:r.ids.length=0
   ·rw[if_pos e]at h;cases h
   rw[if_neg e]at h;by_cases f:r.low<0∨1099511627776<r.high
   ·rw[if_pos f]at h;cases h
   rw[if_neg f]at h;by_cases g:r.high<r.low
   ·rw[if_pos g]at h;cases h
   exact .inr (.inr ⟨c.1,d,by omega,by omega,by omega⟩)
  ·rw[if_pos d]at h;exact absurd h d
 ·rw[if_neg c]at h;cases h
def sS{l:List cg}(h:hY l=0):l.length≤64∧0<l.length∧∀x∈l,mi x:=by
 unfold hY at h;by_cases a:l.length=0∨64<l.length
 ·rw[if_pos a]at h;cases h
 ·rw[if_neg a]at h;exact⟨by omega,by omega,aLE l h⟩
def Yl{r:bq}{cs:List PV}(h:dG r cs)(hr:cH r≠0)(S:St):aO T 254 [.agg cs] S=some (.tup [.nils,.int .i64 (cH r)],S):=by
 have hc:=fun S=>Yj h S;obtain⟨⟨vl,vr,vi,rfl,h1,h2,h3⟩,hlens⟩:=h;have hal:([.int .i64 r.kind,vl,vr,vi,.int .i64 r.low,.int .i64 r.high]:List PV).all PV.one=true:=jk h1 h2 h3;have eS:∀(a b c d e f:PV),ae true 6 [a,b,c,d,e,f]=some (.agg [a,b,c,d,e,f]):=fun a b c d e f=>by simp[ae]
 refine aW Yk rfl ?_;simp -implicitDefEqProofs [-List.all_eq_true,mO,hal,aI,ba,eS,hc];refine bX (fun _=>?_) (fun a=>absurd a (by simpa using hr));simp
 try (rw[cN (aP.refl S) rfl];rfl)
def Ym{r:bq}{cs:List PV}(h:dG r cs)(hr:cH r=0)(S:St):∃v',aO T 254 [.agg cs] S=some (.tup [v',.int .i64 0],S)∧fF v' (bW r):=by
 have hc:∀S,aO T 183 [.agg cs] S=some (.int .i64 0,S):=fun S=>by rw[Yj h S,hr];rfl
 obtain⟨⟨vl,vr,vi,rfl,h1,h2,h3⟩,hlens⟩:=h;have hal:([.int .i64 r.kind,vl,vr,vi,.int .i64 r.low,.int .i64 r.high]:List PV).all PV.one=true:=jk h1 h2 h3;have eS:∀(a b c d e f:PV),ae true 6 [a,b,c,d,e,f]=some (.agg [a,b,c,d,e,f]):=fun a b c d e f=>by simp[ae]
 have l2:=h2.len;rw[List.length_map]at l2;have hz:=FU hr;have hk:((r.kind.toNat:Nat):Int)=r.kind:=by omega
 have uk:=cu (n:=r.kind.toNat) (by omega);obtain⟨v1,S1,a1,a2,a3⟩:=kh (n:=r.kind.toNat) (by omega) (aP.refl S);rw[hk]at a1;have key:=eB (T:=T) (f:=254) (c:=mO) Yk (args:=[.agg [.int .i64 r.kind,vl,vr,vi,.int .i64 r.low,.int .i64 r.high]]) (S:=S) rfl (R:=fun x S2=>S2=S∧∃v',x=.tup [v',.int .i64 0]∧fF v' (bW r)) ?_
 ·obtain⟨x,S2,q1,rfl,v',rfl,q2⟩:=key;exact⟨v',q1,q2⟩
 rcases hz with⟨k1,z⟩|⟨k2,z⟩|⟨k3,z,z1,z2,z3⟩
 ·have b1:(r.kind==1)=true:=by simpa using k1
  have he:bW r=aN r.kind.toNat++ew r.labs:=by unfold bW;rw[if_pos k1]
  have hR:=mY.1 z;obtain⟨v2,c1,c2⟩:=aDH h1.reads hR S1
  obtain⟨v3,S3,d1,d2,d3⟩:=a2.app (bytes:=1) (aL (ew r.labs)) (by
   have q1:=Dr hR.2.1;have q2:=hR.1;have q3:=cu (n:=r.labs.length) (by omega);rw[bO,bO];unfold ew;rw[List.length_append];omega)
  rw[←fc,←he]at d2;simp -implicitDefEqProofs [-List.all_eq_true,mO,hal,aI,ba,eS,hc,a1,b1,c1,c2.isl.appdS,d1];have:=vj d2;simp[this];exact jK d2
 ·have b1:(r.kind==1)=false:=by rw[k2];rfl
  have b2:(r.kind==2)=true:=by simpa using k2
  obtain⟨y1,y2,y3⟩:=sS z;have he:bW r=aN r.kind.toNat++(aN r.rows.length++r.rows.flatMap dY):=by unfold bW;rw[if_neg (by omega),if_pos k2]
  obtain⟨v2,S2,c1,c2,c3⟩:=kh (n:=r.rows.length) (by omega) (aP.refl S1);have u2:=cu (n:=r.rows.length) (by omega);obtain⟨v3,S3,d1,d2,d3⟩:=(a2.grow c2.grows).app (bytes:=1) (aL (aN r.rows.length)) (by rw[bO,bO];omega);rw[←fc]at d2;simp -implicitDefEqProofs [-List.all_eq_true,mO,hal,aI,ba,eS,hc,a1,b1,b2,l2,c1,(c2.isSl (gn _)).appdS,d1];refine aLG h2.reads y1 y3 hal r.rows [] (aN r.kind.toNat++aN r.rows.length) rfl (by simp only[List.length_append];omega) _ S3 (by simp) (by simp) (by simpa using d2) (fun fr' S' ha=>?_);rw[iv,←he]at ha;have:=vj ha;simp[this];exact jK ha
 ·have b1:(r.kind==1)=false:=by rw[k3];rfl
  have b2:(r.kind==2)=false:=by rw[k3];rfl
  have he:bW r=aN r.kind.toNat++(ck r.ids++aN r.low.toNat++aN r.high.toNat):=by unfold bW;rw[if_neg (by omega),if_neg (by omega)]
  have n1:((r.low.toNat:Nat):Int)=r.low:=by omega
  have n2:((r.high.toNat:Nat):Int)=r.high:=by omega
  obtain⟨v2,c1,c2⟩:=aLD h3.reads z S1
  have hp:(ck r.ids).length≤20000:=by
   obtain⟨p1,p2⟩:=qI z;have q1:=FT r.ids 0 (by omega) p2;have q2:=cu (n:=r.ids.length) (by omega);unfold ck;rw[List.length_append];omega
  obtain⟨v3,S3,d1,d2,d3⟩:=a2.app (bytes:=1) (aL (ck r.ids)) (by rw[bO,bO];omega);rw[←fc]at d2;have u3:=cu (n:=r.low.toNat) (by omega);have u4:=cu (n:=r.high.toNat) (by omega);obtain⟨v4,S4,e1,e2,e3⟩:=kh (n:=r.low.toNat) (by omega) (aP.refl S3);rw[n1]at e1;obtain⟨v5,S5,f1,f2,f3⟩:=(d2.grow e2.grows).app (bytes:=1) (aL (aN r.low.toNat)) (by rw[bO,bO,List.length_append];omega);rw[←fc]at f2;obtain⟨v6,S6,g1,g2,g3⟩:=kh (n:=r.high.toNat) (by omega) (aP.refl S5);rw[n2]at g1;obtain⟨v7,S7,i1,i2,i3⟩:=(f2.grow g2.grows).app (bytes:=1) (aL (aN r.high.toNat)) (by rw[bO,bO];simp only[List.length_append];omega);rw[←fc]at i2;have he2:aN r.kind.toNat++ck r.ids++aN r.low.toNat++aN r.high.toNat=bW r:=by rw[he];simp
  rw[he2]at i2;simp -implicitDefEqProofs [-List.all_eq_true,mO,hal,aI,ba,eS,hc,a1,b1,b2,c1,c2.isl.appdS,d1,e1,(e2.isSl (gn _)).appdS,f1,g1,(g2.isSl (gn _)).appdS,i1];have:=vj i2;simp[this];exact jK i2
end Ps
set_option linter.defProp false
namespace Ps
set_option linter.unusedSimpArgs false
set_option linter.unusedVariables false
open Go
def aLH:T.fn 240=some (.code qs):=rfl
def lA{S0 S:St}{sz:Nat}{v:PV}{es:List PV}(h:bB S0 sz S v es):v.cells=[v]∧v.one=true:=by
 rcases h.acc with⟨a,_⟩|⟨id,_,a,_⟩<;>rw[a]<;>exact⟨rfl,rfl⟩
def aP.set{S0 S:St}(h:aP S0 S){i:Nat}(hi:S0.objs.length≤i){x:List PV}:aP S0 ⟨S.objs.set i x,S.tips⟩:=by
 obtain⟨o,t,rfl⟩:=h;exact⟨o.set (i-S0.objs.length) x,t,by simp[mF _ _ hi]⟩
def aLI{l:List Nat}{vl:PV}(hv:bT 1 vl (nV (l.map Int.ofNat)))(hl:l.length≤8)(hn:∀x∈l,x<9223372036854775808){i:Nat}{S0:St}(hi:S0.objs.length≤i)(hne:l≠[]){K:List Kt}{Q:Fr→St→Prop}:∀(r p:List Nat) (s:List UInt8) (v:PV),l=p++r→s.length+9*r.length≤67100000→∀(fr:Fr) (S:St),
  fr 1=.ptr i 0→fr 5=vl→fr 6=.int .i64 l.length→fr 7=.int .i64 p.length→S.objs[i]?=some [v]→aP S0 S→bG 1 v (aL s)→(p=[]∨bB S0 1 S v (aL s)) →
  (∀fr' S' v',S'.objs[i]?=some [v']→S'.objs.length=S.objs.length→bB S0 1 S' v' (aL (s++r.flatMap aN))→Ok (aJ T K fr' S') Q) →
  Ok (aJ T (.lp Bd::.blk 0::K) fr S) Q:=by
 intro r
 induction r with
 |nil=>
  intro p s v e hs fr S h1 h5 h6 h7 ho hgr hsl hac k;rw[cI]at e;subst e;rw[af];simp -implicitDefEqProofs [h5,h6,h7]
  exact k _ S v ho rfl (by simpa using hac.resolve_left hne)
 |cons n r ih=>
  intro p s v e hs fr S h1 h5 h6 h7 ho hgr hsl hac k;have hlt:p.length<l.length:=by rw[e];simp
  have hg:=jP (p:=p.map Int.ofNat) (r:=r.map Int.ofNat) (n:=(n:Int)) hv (by rw[e];simp) (k:=.i64);rw[List.length_map]at hg;have hw:=dR (a:=p.length) (by omega);have hx:=hn n (by rw[e];simp);simp only[bV]at hs;have u1:=cu (n:=n) hx;obtain⟨v1,S1,a1,a2,a3⟩:=oE (n:=n) hsl hx (by omega) hgr;have ho1:S1.objs[i]?=some [v]:=by rw[a3];exact ho
  rw[af];obtain⟨cc,co⟩:=lA a2;simp -implicitDefEqProofs [h1,h5,h6,h7,hlt,hg,ba,hw,aU ho,aI,aR,a1,ho1,cc,co];have hlt1:i<S1.objs.length:=(aS.1 ho1).1;have ha2:bB S0 1 ⟨S1.objs.set i [v1],S1.tips⟩ v1 (aL (s++aN n)):=⟨a2.grows.set hi,a2.acc⟩;refine ih (p++[n]) (s++aN n) v1 (by simp[e]) (by simp only[List.length_append];omega) _ _ (by simp[h1]) (by simp[h5]) (by simp[h6]) (by simp) (by simp[hlt1]) ha2.grows (ha2.isSl (gn _)) (.inr ha2) (fun fr' S' v' g1 g2 g3=>k fr' S' v' g1 (by rw[g2];simp[a3]) ?_);simpa using g3
def aLJ{S0 S S':St}{i:Nat}{v v':PV}{es:List PV}(hi:S0.objs.length≤i)(ho:S.objs[i]?=some [v])(hgr:aP S0 S)(hidl:∀id n es sp,v=.sl (some (id,n)) es sp→id<S.tips.length)(ho':S'.objs[i]?=some [v'])(ha':bB S0 1 S' v' es) :
  ∃S'',ac false S S' (.tup [])=(.tup [],S'')∧S''.objs[i]?=some [v']∧bB S0 1 S'' v' es:=by
 have hs:bQ S'.objs S.objs.length eM (.tup [])=some (.tup []):=rfl;have hlt:i<S.objs.length:=(aS.1 ho).1;have htake:(S'.objs.take S.objs.length)[i]?=some [v']:=by rw[dM hlt];exact ho'
 obtain⟨o,t,hS⟩:=hgr;obtain⟨o',t',hS'⟩:=ha'.grows;unfold ac;rw[hs];simp only[cF,if_false];split
 ·rename_i hb;have e:=oS hb;have ho2:S.objs[i]?=some [v']:=by rw[←e];exact htake
  have hv:v=v':=by rw[ho]at ho2;simpa using ho2
  refine⟨_,rfl,ho2,⟨o,t'.take t.length,?_⟩,?_⟩
  ·rw[hS',hS];simp[Af];exact mu (by omega)
  ·rcases ha'.acc with a|⟨id,a,b,c⟩
   ·exact .inl a
   ·refine .inr ⟨id,a,b,?_⟩;have hid:id<S.tips.length:=hidl id _ _ _ (hv.trans b);simp only;rw[dM hid];exact c
 ·split
  ·refine⟨_,rfl,htake,⟨o'.take (S.objs.length-S0.objs.length),t',?_⟩,ha'.acc⟩;rw[hS',hS];simp[Af];exact mu (by omega)
  ·exact⟨_,rfl,ho',ha'⟩
def FV{l:List Nat}{vl:PV}(hv:bT 1 vl (nV (l.map Int.ofNat)))(hl:l.length≤8)(hn:∀x∈l,x<9223372036854775808){i:Nat}{S0 S:St}(hi:S0.objs.length≤i)(hne:l≠[]){v:PV}{s:List UInt8}(ho:S.objs[i]?=some [v])(hgr:aP S0 S)(hsl:bG 1 v (aL s))(hidl:∀id n es sp,v=.sl (some (id,n)) es sp→id<S.tips.length)(hs:s.length+9*l.length≤67100000) :
  ∃S' v',aO T 240 [vl,.ptr i 0] S=some (.tup [],S')∧S'.objs[i]?=some [v']∧bB S0 1 S' v' (aL (s++l.flatMap aN)):=by
 have hlen:=hv.len;rw[gS,List.length_map]at hlen;have key:=eB (T:=T) (f:=240) (c:=qs) aLH (args:=[vl,.ptr i 0]) (S:=S) rfl (R:=fun r S2=>r=.tup []∧∃v',S2.objs[i]?=some [v']∧bB S0 1 S2 v' (aL (s++l.flatMap aN))) ?_
 ·obtain⟨r,S2,h1,rfl,v',h2,h3⟩:=key;exact⟨S2,v',h1,h2,h3⟩
 simp -implicitDefEqProofs [qs,hlen];refine aLI hv hl hn hi hne l [] s v rfl hs _ S (by simp) (by simp) (by simp) (by simp) ho hgr hsl (.inl rfl) (fun fr' S' v' g1 g2 g3=>?_);obtain⟨S'',f1,f2,f3⟩:=aLJ hi ho hgr hidl g1 g3;simp[f1];exact⟨v',f2,f3⟩
end Ps
