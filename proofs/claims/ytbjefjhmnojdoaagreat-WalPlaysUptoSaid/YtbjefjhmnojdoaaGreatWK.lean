/- The document's reading of a record, and Of. -/
import Derived.Test.YtbjefjhmnojdoaaGreatDefs
import Derived.Test.YtbjefjhmnojdoaaGreatWI
import Derived.Test.YtbjefjhmnojdoaaGreatQD
set_option linter.defProp false
namespace Ps
set_option linter.unusedSimpArgs false
set_option linter.unusedVariables false
open Go
def AN{r:bq}(h:cH r=0) :
  (∃l,r=⟨1,l,[],[],0,0⟩∧eV l=0)∨(∃l,r=⟨2,[],l,[],0,0⟩∧hY l=0) ∨
  (∃l a b,r=⟨3,[],[],l,a,b⟩∧ec l=0∧0≤a∧a≤b∧b≤1099511627776):=by
 have hz:=FU h;unfold cH at h;obtain⟨k,labs,rows,ids,lo,hi⟩:=r;simp only at h hz;by_cases a:k=1∧rows.length=0∧ids.length=0∧lo=0∧hi=0
 ·rw[if_pos a]at h;obtain⟨rfl,a1,a2,rfl,rfl⟩:=a;rw[List.length_eq_zero_iff]at a1 a2;subst a1;subst a2;exact .inl ⟨labs,rfl,h⟩
 rw[if_neg a]at h;by_cases b:k=2∧labs.length=0∧ids.length=0∧lo=0∧hi=0
 ·rw[if_pos b]at h;obtain⟨rfl,a1,a2,rfl,rfl⟩:=b;rw[List.length_eq_zero_iff]at a1 a2;subst a1;subst a2;exact .inr (.inl ⟨rows,rfl,h⟩)
 rw[if_neg b]at h;by_cases c:k=3∧labs.length=0∧rows.length=0
 ·obtain⟨rfl,a1,a2⟩:=c;rw[List.length_eq_zero_iff]at a1 a2;subst a1;subst a2;rcases hz with⟨q,_⟩|⟨q,_⟩|⟨_,q⟩
  ·cases q
  ·cases q
  ·exact .inr (.inr ⟨ids,lo,hi,rfl,q⟩)
 ·rw[if_neg c]at h;cases h
def ml{p w:List UInt8}{n:Nat}(h:n<9223372036854775808):bM (p++(aN n++w)) p.length false=(n,(p++aN n).length,false):=by
 unfold bM;rw[kL h];simp
def Yz{v:Int}:ir (dX v)=v:=by
 unfold ir dX;split
 ·have:(-2*v-1).toNat%2=1:=by omega
  rw[if_pos this];omega
 ·have:¬(2*v).toNat%2=1:=by omega
  rw[if_neg this];omega
def aMc{p w:List UInt8}{x:cg}(h:mi x):mj (p++(dY x++w)) p.length false=(x,(p++dY x).length,false):=by
 obtain⟨x1,x2,x3⟩:=h;obtain⟨m1,m2,m3,m4⟩:=sR x3;have a:=ml (p:=p) (w:=aN x.2.1.toNat++(aN (dX x.2.2)++w)) (n:=x.1.toNat) (by omega);have b:=ml (p:=p++aN x.1.toNat) (w:=aN (dX x.2.2)++w) (n:=x.2.1.toNat) (by omega);have c:=ml (p:=p++aN x.1.toNat++aN x.2.1.toNat) (w:=w) (n:=dX x.2.2) (qH m3 m4);have e:p++(dY x++w)=p++(aN x.1.toNat++(aN x.2.1.toNat++(aN (dX x.2.2)++w))):=by simp[dY]
 have e2:p++(aN x.1.toNat++(aN x.2.1.toNat++(aN (dX x.2.2)++w)))=(p++aN x.1.toNat)++(aN x.2.1.toNat++(aN (dX x.2.2)++w)):=by simp
 have e3:p++(aN x.1.toNat++(aN x.2.1.toNat++(aN (dX x.2.2)++w)))=(p++aN x.1.toNat++aN x.2.1.toNat)++(aN (dX x.2.2)++w):=by simp
 rw[←e2]at b;rw[←e3]at c;unfold mj;rw[e,a];simp only;rw[b];simp only;rw[c];have n1:((x.1.toNat:Nat):Int)=x.1:=by omega
 have n2:((x.2.1.toNat:Nat):Int)=x.2.1:=by omega
 simp only[n1,n2,Yz];simp[dY]
 try omega
theorem ZA{w:List UInt8}:∀(l:List cg) (p:List UInt8) (l0:List cg),(∀x∈l,mi x)→iW (p++(l.flatMap dY++w)) l.length l0 p.length false=(l0++l,(p++l.flatMap dY).length,false)
 | [],p,l0,_=>by simp[iW]
 |x::l,p,l0,h=>by
  have a:=aMc (p:=p) (w:=l.flatMap dY++w) (h x (by simp));have ih:=ZA (w:=w) l (p++dY x) (l0++[x]) (fun y hy=>h y (by simp[hy]));have e:p++((x::l).flatMap dY++w)=p++(dY x++(l.flatMap dY++w)):=by simp
  have e2:p++(dY x++(l.flatMap dY++w))=(p++dY x)++(l.flatMap dY++w):=by simp
  rw[←e2]at ih;rw[e,bV,iW,if_neg (by decide),a];simp only;rw[ih];simp
theorem ZB{w:List UInt8}:∀(l:List Int) (p:List UInt8) (last:Int) (l0:List Int),((l0=[]∧last=0∧de none l=0)∨(0≤last∧de (some last) l=0)) →
  pR (p++(fH last l++w)) l.length p.length last l0=(l0++l,(p++fH last l).length,0)
 | [],p,last,l0,_=>by simp[pR,fH]
 |n::l,p,last,l0,h=>by
  have hb:0≤n∧n≤1099511627776∧(l0≠[]→last<n)∧last≤n∧0≤last∧de (some n) l=0:=by
   rcases h with⟨rfl,rfl,h⟩|⟨h0,h⟩
   ·rw[kR]at h;by_cases a:n<0∨1099511627776<n
    ·rw[if_pos a]at h;cases h
    ·rw[if_neg a,if_neg (by simp)]at h;exact⟨by omega,by omega,fun q=>absurd rfl q,by omega,by omega,h⟩
   ·rw[kR]at h;by_cases a:n<0∨1099511627776<n
    ·rw[if_pos a]at h;cases h
    ·rw[if_neg a]at h;by_cases b:n≤last
     ·rw[if_pos (by simpa using b)]at h;cases h
     ·rw[if_neg (by simpa using b)]at h;exact⟨by omega,by omega,fun _=>by omega,by omega,h0,h⟩
  obtain⟨h1,h2,h3,h4,h5,h6⟩:=hb;have hn:(((n-last).toNat:Nat):Int)=n-last:=by omega
  have a:=kL (p:=p) (w:=fH n l++w) (n:=(n-last).toNat) (by omega);have ih:=ZB (w:=w) l (p++aN (n-last).toNat) n (l0++[n]) (.inr ⟨h1,h6⟩);have e:p++(fH last (n::l)++w)=p++(aN (n-last).toNat++(fH n l++w)):=by simp[vh]
  have e2:p++(aN (n-last).toNat++(fH n l++w))=(p++aN (n-last).toNat)++(fH n l++w):=by simp
  rw[←e2]at ih;rw[e,bV,pR,a];simp only[hn]
  rw[if_neg (by decide),if_neg (by
   rintro(q|⟨q1,q2⟩)
   ·omega
   ·have:=h3 (by intro z;rw[z]at q1;simp at q1);omega)]
  rw[show last+(n-last)=n by omega,show p.length+(aN (n-last).toNat).length=(p++aN (n-last).toNat).length by simp,ih];simp[vh]
def ZC{p w:List UInt8}{l:List Int}(h:ec l=0):dv (p++(ck l++w)) (p.length:Int)=(l,(p++ck l).length,0):=by
 obtain⟨hl,_⟩:=qI h
 have hr:de none l=0:=by
  unfold ec at h;rw[if_neg (by omega)]at h;exact h
 have a:=kL (p:=p) (w:=fH 0 l++w) (n:=l.length) (by omega);have b:=ZB (w:=w) l (p++aN l.length) 0 [] (.inl ⟨rfl,rfl,hr⟩);have e:p++(ck l++w)=p++(aN l.length++(fH 0 l++w)):=by simp[ck]
 have e2:p++(aN l.length++(fH 0 l++w))=(p++aN l.length)++(fH 0 l++w):=by simp
 rw[←e2]at b;unfold dv;rw[e,a];simp only;rw[if_neg (by decide),if_neg (by omega),show p.length+(aN l.length).length=(p++aN l.length).length by simp,b];simp[ck]
def aMd{r:bq}(h:cH r=0):fR (bW r)=(r,true):=by
 rcases AN h with⟨l,rfl,z⟩|⟨l,rfl,z⟩|⟨l,x,y,rfl,z,z1,z2,z3⟩
 ·have he:bW ⟨1,l,[],[],0,0⟩=[]++(aN 1++ew l):=by simp[bW]
  have a:=ml (p:=[]) (w:=ew l) (n:=1) (by omega);have b:=WT (p:=aN 1) (w:=[]) z;simp only[cI]at b;rw[he];simp only[eE,cT]at a ⊢;unfold fR;rw[a];simp only;rw[b];simp
 ·obtain⟨y1,y2,y3⟩:=sS z;have he:bW ⟨2,[],l,[],0,0⟩=aN 2++(aN l.length++(l.flatMap dY++[])):=by simp[bW]
  have a:=ml (p:=[]) (w:=aN l.length++(l.flatMap dY++[])) (n:=2) (by omega);have b:=ml (p:=aN 2) (w:=l.flatMap dY++[]) (n:=l.length) (by omega);have c:=ZA (w:=[]) l (aN 2++aN l.length) [] y3;have e2:aN 2++(aN l.length++(l.flatMap dY++[]))=(aN 2++aN l.length)++(l.flatMap dY++[]):=by simp
  rw[←e2]at c;rw[he];simp only[eE,cT]at a c ⊢;unfold fR;rw[a];simp only;rw[b];simp only;rw[show min l.length 65=l.length by omega,c];simp
 ·have n1:((x.toNat:Nat):Int)=x:=by omega
  have n2:((y.toNat:Nat):Int)=y:=by omega
  have he:bW ⟨3,[],[],l,x,y⟩=aN 3++(ck l++(aN x.toNat++(aN y.toNat++[]))):=by simp[bW]
  have a:=ml (p:=[]) (w:=ck l++(aN x.toNat++(aN y.toNat++[]))) (n:=3) (by omega);have b:=ZC (p:=aN 3) (w:=aN x.toNat++(aN y.toNat++[])) z;have c:=ml (p:=aN 3++ck l) (w:=aN y.toNat++[]) (n:=x.toNat) (by omega);have d:=ml (p:=aN 3++ck l++aN x.toNat) (w:=[]) (n:=y.toNat) (by omega);have e2:aN 3++(ck l++(aN x.toNat++(aN y.toNat++[])))=(aN 3++ck l)++(aN x.toNat++(aN y.toNat++[])):=by simp
  have e3:aN 3++(ck l++(aN x.toNat++(aN y.toNat++[])))=(aN 3++ck l++aN x.toNat)++(aN y.toNat++[]):=by simp
  rw[←e2]at c;rw[←e3]at d;rw[he];simp only[eE,cT]at a ⊢;unfold fR;rw[a];simp only;rw[b];simp only;rw[c];simp only;rw[d];simp[n1,n2]
end Ps
set_option linter.defProp false
namespace Ps
set_option linter.unusedSimpArgs false
set_option linter.unusedVariables false
open Go
def aBD:T.fn 249=some (.code qz):=rfl
def kG(x:List UInt8):Option bq:=if(fR x).2=true∧cH (fR x).1=0∧bW (fR x).1=x then some (fR x).1 else none
def aBE{r:bq}(h:cH r=0):kG (bW r)=some r:=by
 unfold kG;rw[aMd h];simp[h]
def DE{x:List UInt8}{r:bq}(h:kG x=some r):cH r=0∧bW r=x:=by
 unfold kG at h;split at h
 ·rename_i q;cases h;exact⟨q.2.1,q.2.2⟩
 ·cases h
structure yS(r:bq)(cs:List PV):Prop where
 c:dG r cs
 free:PV.freeL cs=true
 frz:PV.frzL cs=cs
def aBF{s:List UInt8}{v:PV}(hv:bG 1 v (aL s))(hs:s.length≤67108864)(S:St) :
  (∃r cs,kG s=some r∧yS r cs∧aO T 143 [v] S=some (.tup [.agg cs,.int .i64 0],S))∨(kG s=none∧aO T 143 [v] S=some (.tup [.agg bu,.int .i64 5],S)):=by
 obtain⟨x,h1,h2,h3,h4⟩:=aMb hv hs S;rcases h2 with⟨q1,q2,q3,cs,q4,rfl⟩|⟨q1,rfl⟩
 ·left;simp only[PV.free,PV.freeL,Bool.and_true]at h3;simp only[PV.frz,PV.frzL,PV.tup.injEq,kW,PV.agg.injEq,and_true]at h4;exact⟨_,cs,by unfold kG;rw[if_pos ⟨q1,q2,q3⟩],⟨q4,h3,h4⟩,h1⟩
 ·right;exact⟨by unfold kG;rw[if_neg q1],h1⟩
def dz:List PV→List bq→Prop
 | [],[]=>True
 |e::es,r::rs=>(∃cs,e=.agg cs∧yS r cs)∧dz es rs
 |_,_=>False
theorem dz.snoc:∀{es:List PV} {rs:List bq} {cs:List PV} {r:bq},dz es rs→yS r cs→dz (es++[.agg cs]) (rs++[r])
 | [],[],cs,r,_,h=>⟨⟨cs,rfl,h⟩,trivial⟩
 |e::es,q::rs,cs,r,h,k=>⟨h.1,h.2.snoc k⟩
 | [],_::_,_,_,h,_=>by cases h
 |_::_,[],_,_,h,_=>by cases h
def dz.cells:∀{es:List PV} {rs:List bq},dz es rs→∀e∈es,e.cells.length=6
 | [],[],_,e,he=>by cases he
 |x::es,q::rs,h,e,he=>by
  rcases cX.1 he with rfl|he
  ·obtain⟨cs,rfl,hc⟩:=h.1;exact(mA hc.c).1
  ·exact h.2.cells e he
 | [],_::_,h,_,_=>by cases h
 |_::_,[],h,_,_=>by cases h
def dz.free:∀{es:List PV} {rs:List bq},dz es rs→PV.freeL es=true
 | [],[],_=>rfl
 |x::es,q::rs,h=>by
  obtain⟨cs,rfl,hc⟩:=h.1
  simp only[PV.freeL,PV.free,hc.free,h.2.free,sZ]
 | [],_::_,h=>by cases h
 |_::_,[],h=>by cases h
def dz.frz:∀{es:List PV} {rs:List bq},dz es rs→PV.frzL es=es
 | [],[],_=>rfl
 |x::es,q::rs,h=>by
  obtain⟨cs,rfl,hc⟩:=h.1
  simp only[PV.frzL,PV.frz,hc.frz,h.2.frz]
 | [],_::_,h=>by cases h
 |_::_,[],h=>by cases h
theorem dz.len:∀{es:List PV} {rs:List bq},dz es rs→es.length=rs.length
 | [],[],_=>rfl
 |x::es,q::rs,h=>by simp only[bV,h.2.len]
 | [],_::_,h=>by cases h
 |_::_,[],h=>by cases h
theorem dz.take:∀{es:List PV} {rs:List bq} (k:Nat),dz es rs→dz (es.take k) (rs.take k)
 |_,_,0,_=>by simp[dz]
 | [],[],k+1,_=>trivial
 |x::es,q::rs,k+1,h=>⟨h.1,h.2.take k⟩
 | [],_::_,_+1,h=>by cases h
 |_::_,[],_+1,h=>by cases h
def cM(s:List UInt8):Nat→Nat→List bq×Nat
 |0,i=>([],i)
 |k+1,i=>match gX s i with
  |none=>([],i)
  |some (x,n)=>match kG x with
   |none=>([],i)
   |some r=>(r::(cM s k n).1,(cM s k n).2)
def yT{s:List UInt8}{i:Nat}{x:List UInt8}{n:Nat}(h:gX s i=some (x,n)):i+6≤n∧n≤s.length∧x.length≤s.length:=by
 unfold gX at h;split at h
 ·rename_i b0 b1 r hr;have hl:(s.drop i).length=r.length+2:=by rw[hr];simp
  rw[kX]at hl;simp only at h;split at h
  ·cases h
  ·rename_i hc;split at h
   ·simp only[bU,dT]at h;obtain⟨h1,h2⟩:=h;refine⟨by omega,by omega,?_⟩;rw[←h1];simp only[kX,List.length_take,bV];omega
   ·cases h
 ·cases h
def eS{cs:List PV}(h:cs.length=6):ae true 6 cs=some (.agg cs):=jm h
def aBG{s:List UInt8}{bv:PV}(hv:bG 1 bv (aL s))(hs:s.length≤5000000){S0:St}{K:List Kt}{Q:Fr→St→Prop}:∀(k i:Nat),s.length<k+i→i≤s.length→∀(rs:List bq) (es:List PV) (fr:Fr) (S:St),
  es.length+k≤20000000→bB S0 6 S (fr 4) es→dz es rs→fr 0=bv→fr 5=.int .i64 (i:Int) →
  (∀fr' S' es',bB S0 6 S' (fr' 2) es'→dz es' (rs++(cM s k i).1)→fr' 3=.int .i64 ((cM s k i).2:Int)→Q fr' S') →
  Ok (aJ T (.lp xr::.blk 0::K) fr S) Q:=by
 intro k
 induction k with
 |zero=>intro i h1 h2;omega
 |succ k ih=>
  intro i h1 h2 rs es fr S hk ha hr h0 h5 cont;obtain⟨x,g1,g2⟩:=aBC hv hs h2 S
  cases hg:gX s i with
  |none=>
   rw[hg]at g2;obtain⟨e,he,rfl⟩:=g2;have hw:cM s (k+1) i=([],i):=by simp[cM,hg]
   rw[hw]at cont;have he':(e != 0)=true:=by simpa using he
   have hR:∀fr',fr' 2=fr 4→fr' 3=.int .i64 (i:Int)→Q fr' S:=fun fr' q2 q3=>cont fr' S es (by rw[q2];exact ha) (by simpa using hr) q3;clear cont ih;rw[af];simp -implicitDefEqProofs [h0,h5,g1,he']
   exact hR _ (by simp) (by simp[h5])
  |some p=>
   obtain⟨y,n⟩:=p;rw[hg]at g2;obtain⟨yv,rfl,hy⟩:=g2;obtain⟨n1,n2,n3⟩:=yT hg;obtain⟨S1,hS1⟩:∃S1:St,S1=⟨S.objs++[[.int .i64 0,.nils,.nils,.nils,.int .i64 0,.int .i64 0]],S.tips⟩:=⟨_,rfl⟩;rcases aBF hy.isl (by omega) S with⟨r,cs,o1,o2,o3⟩|⟨o1,o3⟩
   ·have hw:cM s (k+1) i=(r::(cM s k n).1,(cM s k n).2):=by simp[cM,hg,o1]
    rw[hw]at cont;obtain⟨c6,c1⟩:=mA o2.c;have c1':(∀x,x∈cs→x.one=true)=True:=eq_true (by simpa using c1);have hsz:gG 6 [PV.agg cs]=true:=by simp[gG,c6]
    obtain⟨v',S',a1,a2,a3⟩:=((ha.objs [cs]).arrs [(1,6)]).app (bytes:=96) [PV.agg cs] (by simp;omega);have hp:=eS c6;have hz:aR [PV.int .i64 0,.nils,.nils,.nils,.int .i64 0,.int .i64 0] 0 cs=cs:=AJ (by simp[c6])
    have hL:∀fr',fr' 0=bv→fr' 4=v'→fr' 5=.int .i64 (n:Int)→Ok (aJ T (.lp xr::.blk 0::K) fr' S') Q:=by
     intro fr' q0 q4 q5;refine ih n (by omega) n2 (rs++[r]) (es++[.agg cs]) fr' S' (by simp;omega) (by rw[q4];exact a2) (hr.snoc o2) q0 q5 (fun fr2 S2 es2 w1 w2 w3=>cont fr2 S2 es2 w1 (by simpa using w2) w3)
    clear cont ih;rw[af];simp -implicitDefEqProofs [h0,h5,g1,o3,aI,dg,c6,c1,c1',hz,hp,uo,bL,bR,bp,gI,hsz,a1];exact hL _ (by simp[h0]) (by simp) (by simp)
   ·have hw:cM s (k+1) i=([],i):=by simp[cM,hg,o1]
    rw[hw]at cont;have hR:∀fr',fr' 2=fr 4→fr' 3=.int .i64 (i:Int)→Q fr' ⟨S.objs++[bu],S.tips⟩:=fun fr' q2 q3=>cont fr' _ es (by rw[q2];exact ha.objs [bu]) (by simpa using hr) q3;have hz:aR [PV.int .i64 0,.nils,.nils,.nils,.int .i64 0,.int .i64 0] 0 bu=bu:=rfl;have c6:bu.length=6:=rfl;have c1:bu.all PV.one=true:=rfl;clear cont ih;rw[af];simp -implicitDefEqProofs [h0,h5,g1,o3,aI,dg,c6,c1,hz];exact hR _ (by simp) (by simp[h5])
def VC{s:List UInt8}{bv:PV}(hv:bG 1 bv (aL s))(hs:s.length≤5000000)(S:St) :
  ∃v es,aO T 249 [bv] S=some (.tup [v,.int .i64 ((cM s (s.length+1) 0).2:Int)],S)∧bG 6 v es∧dz es (cM s (s.length+1) 0).1∧v.free=true∧v.frz=v:=by
 have key:=eB (T:=T) (f:=249) (c:=qz) aBD (args:=[bv]) (S:=S) rfl
  (R:=fun r S2=>S2=S∧∃v es,r=.tup [v,.int .i64 ((cM s (s.length+1) 0).2:Int)]∧bG 6 v es∧dz es (cM s (s.length+1) 0).1∧v.free=true∧v.frz=v) ?_
 ·obtain⟨r,S2,h1,rfl,v,es,rfl,h2⟩:=key;exact⟨v,es,h1,h2⟩
 simp -implicitDefEqProofs [qz];refine aBG hv hs (S0:=S) (s.length+1) 0 (by omega) (by omega) [] [] _ S (by simp;omega) (by simpa using ip 6 (aP.refl S)) trivial (by simp) (by simp) (fun fr' S' es' q1 q2 q3=>?_);rw[eE]at q2
 have hfree:(fr' 2).free=true:=by
  rcases q1.acc with⟨h,_⟩|⟨id,_,h,_⟩
  ·rw[h];rfl
  ·rw[h];simp[PV.free,q2.free,PV.freeL]
 have hfr:(fr' 2).frz=bo (fr' 2) es':=by
  rcases q1.acc with⟨h,_⟩|⟨id,_,h,_⟩
  ·rw[h];rfl
  ·rw[h];simp[PV.frz,bo,q2.frz,PV.frzL]
 have hfin:ac false S S' (.tup [fr' 2,.int .i64 ((cM s (s.length+1) 0).2:Int)])=(.tup [bo (fr' 2) es',.int .i64 ((cM s (s.length+1) 0).2:Int)],S):=by
  rw[cN q1.grows (by simp[PV.free,PV.freeL,hfree])];simp[PV.frz,PV.frzL,hfr]
 simp -implicitDefEqProofs [q3,hfin,-PV.free,-PV.frz];refine⟨es',lZ q1 q2.cells,q2,?_,?_⟩
 ·rcases q1.acc with⟨h,_⟩|⟨id,_,h,_⟩
  ·rw[h];rfl
  ·rw[h];simp[bo,PV.free,q2.free,PV.freeL]
 ·rcases q1.acc with⟨h,_⟩|⟨id,_,h,_⟩
  ·rw[h];rfl
  ·rw[h];simp[bo,PV.frz,q2.frz,PV.frzL]
end Ps
set_option linter.defProp false
namespace Ps
set_option linter.unusedSimpArgs false
set_option linter.unusedVariables false
open Go
def aMe:T.fn 374=some (.code qf):=rfl
def aMf:T.fn 325=some (.code mP):=rfl
def jn:List Int→List cg
 |a::b::c::l=>(a,b,ir c.toNat)::jn l
 |_=>[]
def ZD{x:List Int}{vx:PV}(hx:bT 1 vx (nV x))(hxl:x.length≤200)(hb:∀z∈x,0≤z∧z<9223372036854775808){j:Nat}{S0:St}(hj:S0.objs.length≤j){kd vl vi lo hh f2 f13:PV}{K:List Kt}{Q:Fr→St→Prop}:∀(m:Nat) (post pre:List Int) (l:List cg),x=pre++post→post.length=3*m→l.length+m≤100→∀(fr:Fr) (S:St) (vr:PV),
  fr 2=f2→fr 7=.ptr j 0→fr 13=f13→fr 14=vx→fr 16=.int .i64 (pre.length:Int)→S.objs[j]?=some [kd,vl,vr,vi,lo,hh]→bB S0 3 S vr (l.map dC) →
  (∀fr' S' vr',fr' 2=f2→fr' 7=.ptr j 0→fr' 13=f13→S'.objs[j]?=some [kd,vl,vr',vi,lo,hh]→(∀a,a≠j→S'.objs[a]?=S.objs[a]?)→bB S0 3 S' vr' ((l++jn post).map dC)→Ok (aJ T K fr' S') Q) →
  Ok (aJ T (.lp qe::.blk 1::K) fr S) Q:=by
 have hlen:=hx.len;rw[gS]at hlen;intro m
 induction m with
 |zero=>
  intro post pre l e hp hl fr S vr h2 h7 h13 h14 h16 oj ha k;have hpn:post=[]:=List.length_eq_zero_iff.1 (by omega);subst hpn;have hxx:x.length=pre.length:=by rw[e];simp
  have hw:IntKind.i64.wrap ((pre.length:Int)+2)=(pre.length:Int)+2:=bJ (by omega) (by omega);have hlt:¬(pre.length:Int)+2<(x.length:Int):=by omega
  rw[af];simp -implicitDefEqProofs [h14,h16,hlen,hw,hlt]
  exact k _ S vr (by simp[h2]) (by simp[h7]) (by simp[h13]) oj (fun _ _=>rfl) (by simpa[jn]using ha)
 |succ m ih=>
  intro post pre l e hp hl fr S vr h2 h7 h13 h14 h16 oj ha k
  match post,hp with
  |a::b::c::post,hp=>
   simp only[bV]at hp;have hxx:x.length=pre.length+(post.length+3):=by rw[e];simp
   have jl:j<S.objs.length:=(aS.1 oj).1;have hw1:IntKind.i64.wrap ((pre.length:Int)+1)=(pre.length:Int)+1:=bJ (by omega) (by omega);have hw:IntKind.i64.wrap ((pre.length:Int)+2)=(pre.length:Int)+2:=bJ (by omega) (by omega);have hw3:IntKind.i64.wrap ((pre.length:Int)+3)=(pre.length:Int)+3:=bJ (by omega) (by omega);have hlt:(pre.length:Int)+2<(x.length:Int):=by omega
   have g0:=jP (p:=pre) (r:=b::c::post) hx e (k:=.i64);have g1:=jP (p:=pre++[a]) (n:=b) (r:=c::post) hx (by rw[e];simp) (k:=.i64);have g2:=jP (p:=pre++[a,b]) (n:=c) (r:=post) hx (by rw[e];simp) (k:=.i64);have p1:(((pre++[a]).length:Nat):Int)=(pre.length:Int)+1:=by simp
   have p2:(((pre++[a,b]).length:Nat):Int)=(pre.length:Int)+2:=by simp
   rw[p1]at g1;rw[p2]at g2;obtain⟨hc0,hc1⟩:=hb c (by rw[e];simp);obtain⟨n,rfl⟩:=AS hc0;have hd:(n:Int).tdiv 2=((n/2:Nat):Int):=by rw[vv (by omega)];omega
   have hm:(n:Int).tmod 2=((n%2:Nat):Int):=by rw[oe (by omega)];omega
   have w1':IntKind.i64.wrap ((n:Int)/2)=(n:Int)/2:=bJ (by omega) (by omega);have w2:IntKind.i64.wrap (-((n:Int)/2)) = -((n:Int)/2):=bJ (by omega) (by omega);have w3:IntKind.i64.wrap (-((n:Int)/2)-1) = -((n:Int)/2)-1:=bJ (by omega) (by omega);obtain⟨vr',S',f1,f2',f3⟩:=(ha.arrs [(1,3)]).app (bytes:=24) [dC (a,b,ir n)] (by simp;omega);obtain⟨so,stp⟩:=S';simp only at f3;subst f3;simp only[dC]at f1;obtain⟨cc,co⟩:=lA f2'
   have fin:∀fr',fr' 2=f2→fr' 7=.ptr j 0→fr' 13=f13→fr' 14=vx→fr' 16=.int .i64 ((pre.length:Int)+3) →
     Ok (aJ T (.lp qe::.blk 1::K) fr' ⟨S.objs.set j [kd,vl,vr',vi,lo,hh],stp⟩) Q:=by
    intro fr' q2 q7 q13 q14 q16;refine ih post (pre++[a,b,(n:Int)]) (l++[(a,b,ir n)]) (by rw[e];simp) (by omega) (by simp;omega) fr' ⟨S.objs.set j [kd,vl,vr',vi,lo,hh],stp⟩ vr' q2 q7 q13 q14 (by rw[q16];simp) (by simp[jl]) ⟨f2'.grows.set hj,by simpa[dC]using f2'.acc⟩ (fun fr' S' vr'' r2 r7 r13 rj ro ra=>k fr' S' vr'' r2 r7 r13 rj (fun q hq=>?_) (by simpa[jn]using ra));rw[ro q hq];simp[ak (Ne.symm hq)]
   rw[af];by_cases hn:n%2=1
   ·have hbb:((n:Int)%2==1)=true:=by simp only[beq_iff_eq];omega
    have hz:ir n = -((n:Int)/2)-1:=by unfold ir;rw[if_pos hn];omega
    rw[hz]at f1;simp -implicitDefEqProofs [h7,h14,h16,hlen,hw,hw1,hw3,hlt,g0,g1,g2,ba,hd,hm,w1',w2,w3,hbb,aU oj,aQ,bK,aR,aI,bL,bR,f1,cc,co,oj];exact fin _ (by simp[h2]) (by simp[h7]) (by simp[h13]) (by simp[h14]) (by simp)
   ·have hbb:((n:Int)%2==1)=false:=by
     rw[jw];simp only[ne_eq,beq_iff_eq];omega
    have hz:ir n=(n:Int)/2:=by unfold ir;rw[if_neg hn];omega
    rw[hz]at f1;simp -implicitDefEqProofs [h7,h14,h16,hlen,hw,hw1,hw3,hlt,g0,g1,g2,ba,hd,hm,w1',w2,w3,hbb,aU oj,aQ,bK,aR,aI,bL,bR,f1,cc,co,oj]
    exact fin _ (by simp[h2]) (by simp[h7]) (by simp[h13]) (by simp[h14]) (by simp)
  | [],hp=>simp at hp;
  | [_],hp=>simp at hp;omega
  | [_,_],hp=>simp at hp;omega
def aMg{s:List UInt8}:∀(m i:Nat) (l:List Int) (q:List Int×Nat),fy s m i l=some q→(∀z∈l,0≤z∧z<9223372036854775808)→q.1.length=l.length+m∧∀z∈q.1,0≤z∧z<9223372036854775808:=by
 intro m
 induction m with
 |zero=>intro i l q h hb;simp only[fy,bU]at h;subst h;exact⟨rfl,hb⟩
 |succ m ih=>
  intro i l q h hb;rw[fy]at h;by_cases he:(bD s i).2.2≠0
  ·rw[if_pos he]at h;cases h
  ·rw[if_neg he]at h;have hok:=kK (s:=s) (i:=(i:Int)) (by simpa using he)
   obtain⟨a,b⟩:=ih _ _ q h (fun z hz=>by
    rcases dA.1 hz with hz|hz
    ·exact hb z hz
    ·simp at hz;subst hz;omega)
   exact⟨by rw[a];simp;omega,b⟩
def sW:bq:=⟨0,[],[],[],0,0⟩
def iI(s:List UInt8)(k p:Nat):bq×Bool:=
 if k=1 then(⟨1,(hU s p).1,[],[],0,0⟩,decide ((hU s p).2.2=0))else
 if k=2 then(if(bD s p).2.2≠0∨64<(bD s p).1 then(sW,false)else match fy s (3*(bD s p).1) (bD s p).2.1 []with|none=>(sW,false)|some q=>(⟨2,[],jn q.1,[],0,0⟩,true))else
 if k=3 then(if(dv s p).2.2≠0∨(bD s (dv s p).2.1).2.2≠0∨(bD s (bD s (dv s p).2.1).2.1).2.2≠0 then(sW,false)else
  (⟨3,[],[],(dv s p).1,(bD s (dv s p).2.1).1,(bD s (bD s (dv s p).2.1).2.1).1⟩,true))else(sW,false)
theorem ZE:∀(m:Nat) (l:List Int),l.length=3*m→(jn l).length=m
 |0,[],_=>rfl
 |m+1,a::b::c::l,h=>by
  simp only[bV]at h
  simp[jn,ZE m l (by omega)]
 |m+1,[],h=>by simp at h
 |m+1,[_],h=>by simp at h;omega
 |m+1,[_,_],h=>by simp at h;omega
 |0,_::_,h=>by simp at h
def Fd{v:PV}{l:List Int}{n:Int}(h:sT v (n::l)):dQ 1 v (.int .i64 0)=some (.ref [.int .i64 n]):=by
 have:=jP (p:=[]) (n:=n) (r:=l) h.isl.reads rfl (k:=.i64);simpa using this
def aMh{v:PV}{l:List Int}{m n:Int}(h:sT v (m::n::l)):dQ 1 v (.int .i64 1)=some (.ref [.int .i64 n]):=by
 have:=jP (p:=[m]) (n:=n) (r:=l) h.isl.reads rfl (k:=.i64);simpa using this
def AO:az:=(.seq (.seq (.clr [(37,38)] (.region wQ)) (.block 0 (.seq (.clr [(40,41)] (.region wR)) (.cond (.tmp 39) (.seq (.clr [(9,10),(41,48)] (.region wS)) (.seq (.clr [(48,50)] (.region wT)) (.seq (.clr [(50,53)] (.region wU)) .ret))) (.seq (.clr [(54,55)] (.region wV)) (.cond (.tmp 53) (.seq (.clr [(55,62)] (.region wW)) (.seq (.seq (.clr [(62,69)] (.region wX)) (.cond (.tmp 69) (.seq (.clr [(70,71)] (.region wY)) .ret) .skip)) (.seq (.clr [(15,16),(71,82)] (.region wZ)) (.seq (.seq (.region wa) (.block 1 (.loop qe))) (.seq (.clr [(122,124)] (.region wb)) .ret))))) (.seq (.clr [(125,126)] (.region wd)) (.cond (.tmp 124) (.seq (.clr [(126,133)] (.region we)) (.seq (.clr [(22,23),(133,140)] (.region wg)) (.seq (.seq (.clr [(140,145)] (.region wh)) (.cond (.tmp 145) (.seq (.clr [(146,147)] (.region wj)) .ret) .skip)) (.seq (.clr [(147,157)] (.region wk)) (.seq (.clr [(157,158)] (.region wm)) .ret))))) .skip)))))))) (.seq (.clr [(158,159)] (.region wo)) .ret))
def AP(K:List Kt)(fr:Fr)(S:St):aJ T (.code AO::K) fr S=aJ T (.code (.seq (.seq (.clr [(37,38)] (.region wQ)) (.block 0 (.seq (.clr [(40,41)] (.region wR)) (.cond (.tmp 39) (.seq (.clr [(9,10),(41,48)] (.region wS)) (.seq (.clr [(48,50)] (.region wT)) (.seq (.clr [(50,53)] (.region wU)) .ret))) (.seq (.clr [(54,55)] (.region wV)) (.cond (.tmp 53) (.seq (.clr [(55,62)] (.region wW)) (.seq (.seq (.clr [(62,69)] (.region wX)) (.cond (.tmp 69) (.seq (.clr [(70,71)] (.region wY)) .ret) .skip)) (.seq (.clr [(15,16),(71,82)] (.region wZ)) (.seq (.seq (.region wa) (.block 1 (.loop qe))) (.seq (.clr [(122,124)] (.region wb)) .ret))))) (.seq (.clr [(125,126)] (.region wd)) (.cond (.tmp 124) (.seq (.clr [(126,133)] (.region we)) (.seq (.clr [(22,23),(133,140)] (.region wg)) (.seq (.seq (.clr [(140,145)] (.region wh)) (.cond (.tmp 145) (.seq (.clr [(146,147)] (.region wj)) .ret) .skip)) (.seq (.clr [(147,157)] (.region wk)) (.seq (.clr [(157,158)] (.region wm)) .ret))))) .skip)))))))) (.seq (.clr [(158,159)] (.region wo)) .ret))::K) fr S:=rfl
def aMi:qf=⟨1,[.cell 2 true 6,.tmp 3],
 (.seq (.region Aq) (.seq (.clr [(24,30)] (.region Ar)) (.seq (.seq (.clr [(30,31)] (.region Au)) (.cond (.tmp 31) (.seq (.clr [(32,33)] (.region Av)) .ret) .skip)) (.seq (.clr [(33,37)] (.region Aw)) AO)))),false⟩:=rfl
def aMj{s:List UInt8}{v:PV}(hv:bG 1 v (aL s))(hs:s.length≤67108864){a j k p:Nat}(hk:k<9223372036854775808)(haj:a≠j){S0:St}{Q:Fr→St→Prop}{fr:Fr}{S:St}
  (h0:fr 0=v)(h2:fr 2=.ptr a 0)(h5:fr 5=.int .i64 (p:Int))(h7:fr 7=.ptr j 0)(oa:S.objs[a]?=some bu)(oj:S.objs[j]?=some [.int .i64 (k:Int),.nils,.nils,.nils,.int .i64 0,.int .i64 0])
  (hgr:aP S0 S)(hal:S0.objs.length≤a)(hjl:S0.objs.length≤j)
  (k1:∀fr' S' cs ok,fr' 2=.ptr a 0→fr' 3=.bool ok→ok=(iI s k p).2→S'.objs[a]?=some cs→aP S0 S'→cs.length=6→cs.all PV.one=true→PV.freeL cs=true→((iI s k p).2=true→dG (iI s k p).1 (PV.frzL cs))→Q fr' S') :
  Ok (aJ T [.code AO] fr S) Q:=by
 have al:a<S.objs.length:=(aS.1 oa).1;have jl:j<S.objs.length:=(aS.1 oj).1;have eS:∀(a b c d e f:PV),ae true 6 [a,b,c,d,e,f]=some (.agg [a,b,c,d,e,f]):=fun a b c d e f=>by simp[ae]
 unfold iI at k1;unfold bu at oa
 have fail:∀(fr:Fr),fr 2=.ptr a 0→∀ok,ok=false→(iI s k p).2=false→Q (bw fr 3 (.bool ok)) ⟨S.objs.set a [.int .i64 0,.nils,.nils,.nils,.int .i64 0,.int .i64 0],S.tips⟩:=by
  intro fr h2 ok h3 h4;subst h3;refine k1 _ _ bu false (by simp[h2]) (by simp) h4.symm (by simp[bu,al]) (hgr.set hal) rfl rfl rfl (fun z=>?_);have:(iI s k p).2=true:=z;rw[h4]at this;cases this
 rw[AP];by_cases c1:k=1
 ·subst c1;rw[if_pos rfl]at k1;obtain⟨x,r1,v',rfl,r2⟩:=aDY hv hs (i:=(p:Int)) S;have hchk:=Yu (s:=s) (i:=(p:Int));obtain⟨⟨l,nx,e⟩,hN⟩:∃q,hU s (p:Int)=q:=⟨_,rfl⟩;rw[hN]at r1 r2 k1 hchk;simp only at r1 r2 k1 hchk;obtain⟨hl1,hl2,_⟩:=mY.1 hchk;have hone:=kz r2.isl;have hcells:=oY r2.isl
  have hrec:dG ⟨1,l,[],[],0,0⟩ [.int .i64 1,v',.nils,.nils,.int .i64 0,.int .i64 0]:=
   ⟨⟨v',.nils,.nils,rfl,r2.isl,kS _,kS _⟩,lB (by simp only;omega),by simp[maxLen],by simp[maxLen],fun x hx=>lB (by have:=(rT (hl2 x hx)).1;omega)⟩
  have oj1:(S.objs.set j [.int .i64 1,v',.nils,.nils,.int .i64 0,.int .i64 0])[j]?=some [.int .i64 1,v',.nils,.nils,.int .i64 0,.int .i64 0]:=by simp[jl]
  have oa1:(S.objs.set j [.int .i64 1,v',.nils,.nils,.int .i64 0,.int .i64 0])[a]?=some [.int .i64 0,.nils,.nils,.nils,.int .i64 0,.int .i64 0]:=by rw[ak (Ne.symm haj)];exact oa
  have oj1':(St.mk (S.objs.set j [.int .i64 1,v',.nils,.nils,.int .i64 0,.int .i64 0]) S.tips).objs[j]?=some [.int .i64 1,v',.nils,.nils,.int .i64 0,.int .i64 0]:=oj1;simp -implicitDefEqProofs [h0,h2,h5,h7,aU oj,ba,r1,aI,aR,oj,hone,hcells,aU oj1',eS,oa1];refine k1 _ _ [.int .i64 1,v',.nils,.nils,.int .i64 0,.int .i64 0] ((e:Int)==0) (by simp[h2]) (by simp) ?_ (by simp[al]) ((hgr.set hjl).set hal) rfl (by simp[hone]) ?_ (fun _=>?_)
  ·rw[Fz];simp
  ·simp[PV.freeL,PV.free,r2.free]
  ·simpa[PV.frzL,PV.frz,r2.frz]using hrec
 by_cases c2:k=2
 ·subst c2;rw[if_neg (by decide),if_pos rfl]at k1;obtain⟨x,r1,r2⟩:=AH hv hs (N:=1) (by omega) p S;have r1':aO T 399 [v,.int .i64 (p:Int),.int .i64 1] S=some (x,S):=r1;have hok:=kK (s:=s) (i:=(p:Int));have hfail:(bD s p).2.2≠0∨64<(bD s p).1→(iI s 2 p).2=false:=fun h=>by unfold iI;rw[if_neg (by decide),if_pos rfl,if_pos h]
  unfold fy at r2;obtain⟨⟨n,nx,e⟩,hN⟩:∃q,bD s (p:Int)=q:=⟨_,rfl⟩;rw[hN]at r2 k1 hok hfail;simp only at r2 k1 hok hfail;by_cases he:e=0
  ·subst he;rw[if_neg (by decide)]at r2;simp only[fy,eE]at r2;obtain⟨v',rfl,r2⟩:=r2;have hg:=Fd r2;obtain⟨o1,o2⟩:=hok rfl;by_cases hn:64<n
   ·have hn':(64:Int)<(n:Int):=by omega
    simp -implicitDefEqProofs [h0,h2,h5,h7,aU oj,ba,r1',hg,hn',aI,aQ,bK,aR,oa];exact fail _ (by simp[h2]) _ rfl (hfail (.inr hn))
   ·have hn':¬(64:Int)<(n:Int):=by omega
    rw[if_neg (by omega)]at k1;obtain⟨y,s1,s2⟩:=AH hv hs (N:=3*n) (by omega) nx S;have hw3:IntKind.i64.wrap (3*(n:Int))=3*(n:Int):=bJ (by omega) (by omega);have s1':aO T 399 [v,.int .i64 (nx:Int),.int .i64 (3*(n:Int))] S=some (y,S):=by simpa using s1
    cases hq:fy s (3*n) nx []with
    |none=>
     rw[hq]at s2 k1;simp only[vk]at s2;subst s2;simp only at k1;simp -implicitDefEqProofs [h0,h2,h5,h7,aU oj,ba,r1',hg,hn',hw3,s1'];refine ZD (ma 1) (by simp) (by simp) (j:=j) (S0:=S0) hjl (kd:=.int .i64 2) (vl:=.nils) (vi:=.nils) (lo:=.int .i64 0) (hh:=.int .i64 0) (f2:=.ptr a 0) (f13:=.bool false) 0 [] [] [] rfl rfl (by simp) _ S .nils (by simp[h2]) (by simp[h7]) (by simp) (by simp) (by simp) oj (ip 3 hgr) (fun fr' S' vr' g2 g7 g13 gj go ga=>?_);have oa':S'.objs[a]?=some [.int .i64 0,.nils,.nils,.nils,.int .i64 0,.int .i64 0]:=by rw[go a haj];exact oa
     have al':a<S'.objs.length:=(aS.1 oa').1;obtain⟨cc,co⟩:=lA ga
     have hfr:vr'.free=true:=by
      rcases ga.acc with⟨h,_⟩|⟨id,_,h,_⟩
      ·rw[h];rfl
      ·rw[h];simp[PV.free,AL,PV.freeL,jn]
     simp -implicitDefEqProofs [g2,g7,g13,aU gj,eS,aI,aR,oa',co,cc]
     exact k1 _ _ [.int .i64 2,.nils,vr',.nils,.int .i64 0,.int .i64 0] false (by simp[g2]) (by simp) rfl (by simp[al']) (ga.grows.set hal) rfl (by simp[co]) (by simp[PV.freeL,PV.free,hfr]) (fun z=>by cases z)
    |some q=>
     rw[hq]at s2 k1;obtain⟨x',i'⟩:=q;obtain⟨v2,rfl,s3⟩:=s2;obtain⟨q1,q2⟩:=aMg _ _ _ _ hq (by simp);simp only at k1 q1 q2;simp only[cT,dN]at q1;simp -implicitDefEqProofs [h0,h2,h5,h7,aU oj,ba,r1',hg,hn',hw3,s1'];refine ZD s3.isl.reads (by omega) q2 (j:=j) (S0:=S0) hjl (kd:=.int .i64 2) (vl:=.nils) (vi:=.nils) (lo:=.int .i64 0) (hh:=.int .i64 0) (f2:=.ptr a 0) (f13:=.bool true) n x' [] [] rfl q1 (by simp;omega) _ S .nils (by simp[h2]) (by simp[h7]) (by simp) (by simp) (by simp) oj (ip 3 hgr) (fun fr' S' vr' g2 g7 g13 gj go ga=>?_);have oa':S'.objs[a]?=some [.int .i64 0,.nils,.nils,.nils,.int .i64 0,.int .i64 0]:=by rw[go a haj];exact oa
     have al':a<S'.objs.length:=(aS.1 oa').1;obtain⟨cc,co⟩:=lA ga;rw[eE]at ga
     have hfz:vr'.free=true∧vr'.frz=bo vr' ((jn x').map dC):=by
      rcases ga.acc with⟨h,_⟩|⟨id,_,h,_⟩
      ·rw[h];exact⟨rfl,rfl⟩
      ·rw[h];exact⟨by simp[PV.free,AL,PV.freeL],by simp[bo,PV.frz,Fb,PV.frzL]⟩
     have htl:=ZE n x' q1;simp -implicitDefEqProofs [g2,g7,g13,aU gj,eS,aI,aR,oa',co,cc];refine k1 _ _ [.int .i64 2,.nils,vr',.nils,.int .i64 0,.int .i64 0] true (by simp[g2]) (by simp) rfl (by simp[al']) (ga.grows.set hal) rfl (by simp[co]) (by simp[PV.freeL,PV.free,hfz.1]) (fun z=>?_)
     have hrec:dG ⟨2,[],jn x',[],0,0⟩ [.int .i64 2,.nils,bo vr' ((jn x').map dC),.nils,.int .i64 0,.int .i64 0]:=
      ⟨⟨.nils,_,.nils,rfl,kS _,lZ ga (sV _),kS _⟩,by simp[maxLen],lB (by simp only;omega),by simp[maxLen],by simp⟩
     simpa[PV.frzL,PV.frz,hfz.2]using hrec
  ·rw[if_pos he]at r2;simp only[vk]at r2;subst r2;simp -implicitDefEqProofs [h0,h2,h5,h7,aU oj,ba,r1',aI,aQ,bK,aR,oa];exact fail _ (by simp[h2]) _ rfl (hfail (.inl he))
 by_cases c3:k=3
 ·subst c3;rw[if_neg (by decide),if_neg (by decide),if_pos rfl]at k1;obtain⟨x,r1,v',rfl,r2⟩:=aLZ hv hs (i:=(p:Int)) S;have hll:=Ys (s:=s) (i:=(p:Int));have hfail:(dv s p).2.2≠0∨(bD s (dv s p).2.1).2.2≠0∨(bD s (bD s (dv s p).2.1).2.1).2.2≠0→(iI s 3 p).2=false:=fun h=>by unfold iI;rw[if_neg (by decide),if_neg (by decide),if_pos rfl,if_pos h]
  obtain⟨⟨l,nx,e⟩,hN⟩:∃q,dv s (p:Int)=q:=⟨_,rfl⟩;rw[hN]at r1 r2 k1 hll hfail;simp only at r1 r2 k1 hll hfail;obtain⟨y,s1,s2⟩:=AH hv hs (N:=2) (by omega) nx S;have s1':aO T 399 [v,.int .i64 (nx:Int),.int .i64 2] S=some (y,S):=s1;unfold fy at s2;obtain⟨⟨n1,nx1,e1⟩,hN1⟩:∃q,bD s (nx:Int)=q:=⟨_,rfl⟩;rw[hN1]at s2 k1 hfail;simp only at s2 k1 hfail;have hone:=kz r2.isl;have hcells:=oY r2.isl
  have hbad:y=.tup [.nils,.int .i64 0,.bool false]→(iI s 3 p).2=false→Ok (aJ T [.code AO] fr S) Q:=by
   intro hy hf;subst hy;rw[AP];simp -implicitDefEqProofs [h0,h2,h5,h7,aU oj,ba,r1,s1',aI,aQ,bK,aR,oa];exact fail _ (by simp[h2]) _ rfl hf
  by_cases he1:e1=0
  ·subst he1;rw[if_neg (by decide)]at s2;unfold fy at s2;obtain⟨⟨n2,nx2,e2⟩,hN2⟩:∃q,bD s (nx1:Int)=q:=⟨_,rfl⟩;rw[hN2]at s2 k1 hfail;simp only at s2 k1 hfail;by_cases he2:e2=0
   ·subst he2;rw[if_neg (by decide)]at s2;simp only[fy,eE,jx]at s2;obtain⟨v2,rfl,s3⟩:=s2;have hg0:=Fd s3;have hg1:=aMh s3;by_cases he:e=0
    ·subst he;rw[if_neg (by simp)]at k1
     have hrec:dG ⟨3,[],[],l,(n1:Int),(n2:Int)⟩ [.int .i64 3,.nils,.nils,v',.int .i64 (n1:Int),.int .i64 (n2:Int)]:=
      ⟨⟨.nils,.nils,v',rfl,kS _,kS _,r2.isl⟩,by simp[maxLen],by simp[maxLen],lB (by simp only;omega),by simp⟩
     have oj1:(S.objs.set j [.int .i64 3,.nils,.nils,v',.int .i64 0,.int .i64 0])[j]?=some [.int .i64 3,.nils,.nils,v',.int .i64 0,.int .i64 0]:=by simp[jl]
     have oj2:(S.objs.set j [.int .i64 3,.nils,.nils,v',.int .i64 (n1:Int),.int .i64 0])[j]?=some [.int .i64 3,.nils,.nils,v',.int .i64 (n1:Int),.int .i64 0]:=by simp[jl]
     have oj3:(St.mk (S.objs.set j [.int .i64 3,.nils,.nils,v',.int .i64 (n1:Int),.int .i64 (n2:Int)]) S.tips).objs[j]?=some [.int .i64 3,.nils,.nils,v',.int .i64 (n1:Int),.int .i64 (n2:Int)]:=by simp[jl]
     have oa1:(S.objs.set j [.int .i64 3,.nils,.nils,v',.int .i64 (n1:Int),.int .i64 (n2:Int)])[a]?=some [.int .i64 0,.nils,.nils,.nils,.int .i64 0,.int .i64 0]:=by rw[ak (Ne.symm haj)];exact oa
     simp -implicitDefEqProofs [h0,h2,h5,h7,aU oj,ba,r1,s1',hg0,hg1,aI,aR,oj,hone,hcells,oj1,oj2,aU oj3,eS,oa1];refine k1 _ _ [.int .i64 3,.nils,.nils,v',.int .i64 (n1:Int),.int .i64 (n2:Int)] true (by simp[h2]) (by simp) rfl (by simp[al]) ((hgr.set hjl).set hal) rfl (by simp[hone]) ?_ (fun _=>?_)
     ·simp[PV.freeL,PV.free,r2.free]
     ·simpa[PV.frzL,PV.frz,r2.frz]using hrec
    ·have hne:((e:Int) != 0)=true:=by simpa using he
     simp -implicitDefEqProofs [h0,h2,h5,h7,aU oj,ba,r1,s1',hne,aI,aQ,bK,aR,oa];exact fail _ (by simp[h2]) _ rfl (hfail (.inl he))
   ·rw[if_pos he2]at s2;rw[←AP];exact hbad s2 (hfail (.inr (.inr he2)))
  ·rw[if_pos he1]at s2;rw[←AP];exact hbad s2 (hfail (.inr (.inl he1)))
 ·have b1:((k:Int)==1)=false:=by
   rw[jw];simp only[ne_eq,beq_iff_eq];omega
  have b2:((k:Int)==2)=false:=by
   rw[jw];simp only[ne_eq,beq_iff_eq];omega
  have b3:((k:Int)==3)=false:=by
   rw[jw];simp only[ne_eq,beq_iff_eq];omega
  simp -implicitDefEqProofs [h0,h2,h5,h7,aU oj,ba,b1,b2,b3,aI,aQ,bK,aR,oa];exact fail _ (by simp[h2]) _ rfl (by unfold iI;rw[if_neg c1,if_neg c2,if_neg c3])
end Ps
