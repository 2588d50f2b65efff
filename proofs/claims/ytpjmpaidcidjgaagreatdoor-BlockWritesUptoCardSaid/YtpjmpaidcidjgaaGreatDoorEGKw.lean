/- The index of bytes: the reader. -/
import Derived.Test.YtpjmpaidcidjgaaGreatDoorAbbKw
import Derived.Test.YtpjmpaidcidjgaaGreatDoorBHKw
import Derived.Test.YtpjmpaidcidjgaaGreatDoorBFKw
set_option linter.defProp false
namespace Ps
set_option linter.unusedSimpArgs false
set_option linter.unusedVariables false
open Go Go.Proofs
def iW(b:List UInt8):List UInt8:=[UInt8.ofNat ((kF b).toNat%256),UInt8.ofNat ((kF b).toNat/256%256),UInt8.ofNat ((kF b).toNat/65536%256),UInt8.ofNat ((kF b).toNat/16777216%256)]
def cK(x:List UInt8):List UInt8:=bI x.length++x
def dA(s:bf):List UInt8:=bI (bi s.2).length++(bi s.2).flatMap fun c=>cK (cS c)
def fU:List UInt8:=[71,66,75,49]
def fD(l:List bf):List UInt8:=fU++cK (dP (l.map (·.1)))++l.flatMap dA
def fb(l:List bf):List UInt8:=fD l++iW (fD l)
def ad.more{S0 S S2:St}{sz:Nat}{v:PV}{es:List PV}(h:ad S0 sz S v es)(hg:aN S S2):ad S0 sz S2 v es:=by
 refine⟨h.grows.trans hg,?_⟩;rcases h.acc with h1|⟨id,h1,h2,h3⟩
 ·exact .inl h1
 ·obtain⟨o,t,rfl⟩:=hg;exact .inr ⟨id,h1,h2,by simp only;rw[bF (aO.1 h3).1];exact h3⟩
def ad.setO{S0 S:St}{sz:Nat}{v:PV}{es:List PV}(h:ad S0 sz S v es){i:Nat}(hi:S0.objs.length≤i)(x:List PV):ad S0 sz ⟨S.objs.set i x,S.tips⟩ v es:=⟨iF h.grows hi x,h.acc⟩
structure nq(S0 S:St)(ob:Nat)(p:List UInt8):Prop where
 new:S0.objs.length≤ob
 ex:∃bv,S.objs[ob]?=some [bv]∧ad S0 1 S bv (aI p)
def CO{S S1:St}{i:Nat}{x y:List PV}(hl:S1.objs.length=S.objs.length)(hx:S.objs[i]?=some x)(hy:S1.objs[i]?=some y)(hne:x≠y):ak false S S1 (.tup [])=(.tup [],S1):=by
 unfold ak;have hs:sol S1.objs S.objs.length eF (.tup [])=some (.tup []):=rC rfl;have ht:S1.objs.take S.objs.length=S1.objs:=by rw[←hl];simp
 have hq:PV.beqLL S1.objs S.objs=false:=by
  cases h:PV.beqLL S1.objs S.objs with
  |false=>rfl
  |true=>
   have:=lX h;rw[this,hx]at hy;exact absurd (gD hy) hne
 rw[if_neg (by decide),hs,ht,hq];simp only[bp,if_false];split<;>rfl
def WV:T1.fn 261=some (.code qF):=rfl
def WW:T1.fn 262=some (.code z27):=rfl
def CP(n:Nat):0<(bI n).length:=by rw[bI];split<;>simp
def CQ{S0 S S':St}{v v':PV}{es es':List PV}{sz:Nat}(h:ad S0 sz S v es)(h':ad S0 sz S' v' es')(hl:es.length<es'.length):v≠v':=by
 rintro rfl;rcases h.acc with⟨h1,h2⟩|⟨id,_,h1,_⟩
 ·subst h1;rcases h'.acc with⟨_,e⟩|⟨_,_,e,_⟩
  ·subst e;simp at hl
  ·cases e
 ·subst h1;rcases h'.acc with⟨e,_⟩|⟨_,_,e,_⟩
  ·cases e
  ·injection e with _ e2 _
   rw[e2]at hl;omega
def CR{S0 S:St}{ob:Nat}{p:List UInt8}(h:nq S0 S ob p)(hp:p.length≤60000000){n:Nat}(hn:n<4611686018427387904) :
  ∃S',aM T1 261 [.int .i64 (n:Int),.ptr ob 0] S=some (.tup [],S')∧nq S0 S' ob (p++bI n)∧S'.objs.length=S.objs.length∧∀i,i≠ob→S'.objs[i]?=S.objs[i]?:=by
 obtain⟨hno,bv,ho,ha⟩:=h;have hlo:=(aO.1 ho).1;have hu:=dK (n:=n) (by omega);obtain⟨v1,S1,c1,c2,c3⟩:=mG (s:=[]) (v:=.nils) (.inl ⟨rfl,rfl⟩) (n:=n) (by omega) (by simp) (S0:=S) (S:=S) (aN.refl S);have c1:=gh c1;have ha1:=ha.more c2.grows;obtain⟨v2,S2,d1,d2,d3⟩:=ha1.app (bytes:=1) (aI (bI n)) (by rw[bN,bN];omega);have hap:=(c2.isSl (iE _)).appdS (S:=S1);simp only[nX]at hap;have ho1:S1.objs[ob]?=some [bv]:=by rw[c3];exact ho
 have ho2:S2.objs[ob]?=some [bv]:=by rw[d3];exact ho1
 have hlo2:ob<S2.objs.length:=(aO.1 ho2).1
 obtain⟨o1,o2⟩:v2.one=true∧v2.cells=[v2]:=by
  rcases d2.acc with⟨rfl,_⟩|⟨_,_,rfl,_⟩<;>exact⟨rfl,rfl⟩
 have hne:[bv]≠[v2]:=fun e=>by
  have e:=List.cons.inj e;exact CQ ha d2 (by simp only[aZ,bN];have:=CP n;omega) e.1
 refine⟨⟨S2.objs.set ob [v2],S2.tips⟩,?_,⟨hno,v2,by simp only;rw[dd hlo2],?_⟩,by simp[d3,c3],fun i hi=>by simp only;rw[bn (Ne.symm hi),d3,c3]⟩
 ·refine bP WV rfl ?_;simp -implicitDefEqProofs [qF,c1,dM ho1,bM,hap,d1,aH,ho2,o1,o2,bK];rw[tw];exact CO (i:=ob) (by simp[d3,c3]) ho (by simp only;rw[dd hlo2]) hne
 ·rw[gF];exact d2.setO hno _
def CS{S0 S:St}{ob o8:Nat}{p x:List UInt8}(h:nq S0 S ob p)(hp:p.length+x.length≤60000000)(h8:S.objs[o8]?=some [.fn 261 [.ptr ob 0]])(hne8:o8≠ob){xv:PV}(hx:cF 1 xv (aI x)) :
  ∃S',aM T1 262 [xv,.ptr o8 0,.ptr ob 0] S=some (.tup [],S')∧nq S0 S' ob (p++cK x)∧S'.objs.length=S.objs.length∧∀i,i≠ob→S'.objs[i]?=S.objs[i]?:=by
 have hlen:=hx.len;rw[bN]at hlen;obtain⟨S1,c1,c2,c3,c4⟩:=CR h (by omega) (n:=x.length) (by omega);obtain⟨hno,bv0,ho0,ha0⟩:=h;obtain⟨_,bv,ho,ha⟩:=c2;have hlo:=(aO.1 ho).1;have hu:=dK (n:=x.length) (by omega);obtain⟨v2,S2,d1,d2,d3⟩:=ha.app (bytes:=1) (aI x) (by rw[bN,bN,aZ];omega);have hap:=hx.appdS (S:=S1);have ho2:S2.objs[ob]?=some [bv]:=by rw[d3];exact ho
 have hlo2:ob<S2.objs.length:=(aO.1 ho2).1
 obtain⟨o1,o2⟩:v2.one=true∧v2.cells=[v2]:=by
  rcases d2.acc with⟨rfl,_⟩|⟨_,_,rfl,_⟩<;>exact⟨rfl,rfl⟩
 have hne:[bv0]≠[v2]:=fun e=>by
  have e:=List.cons.inj e;exact CQ ha0 d2 (by simp only[aZ,bN];have:=CP x.length;omega) e.1
 refine⟨⟨S2.objs.set ob [v2],S2.tips⟩,?_,⟨hno,v2,by simp only;rw[dd hlo2],?_⟩,by simp[d3,c3],fun i hi=>by simp only;rw[bn (Ne.symm hi),d3];exact c4 i hi⟩
 ·refine bP WW rfl ?_;simp -implicitDefEqProofs [z27,hlen,dM h8,bM,c1,dM ho,hap,d1,aH,ho2,o1,o2,bK];rw[tw];exact CO (i:=ob) (by simp[d3,c3]) ho0 (by simp only;rw[dd hlo2]) hne
 ·rw[cK,←List.append_assoc,gF];exact d2.setO hno _
def WX:T1.fn 161=some (.code qH):=rfl
def nr{a k:Nat}(hk:k≤32){l:IntKind}:arith .shr (.int .u32 (a:Int)) (.int l (k:Int))=some (.int .u32 ((a/2^k:Nat):Int)):=by
 have h1:¬((k:Int)<0):=by omega
 have h2:min (k:Int).toNat IntKind.u32.bits=k:=by simp[IntKind.bits];omega
 simp only[arith,eX,qm,if_true,if_neg h1,h2];rw[pF _ (by exact_mod_cast bb (2^k))]
 norm_cast
def CT(b:List UInt8):∃n:Nat,kF b=(n:Int)∧n<4294967296:=by
 refine⟨(BitVec.ofInt 32 4294967295 ^^^ BitVec.ofInt 32 (pV b)).toNat,?_,(BitVec.ofInt 32 4294967295 ^^^ BitVec.ofInt 32 (pV b)).isLt⟩;have hlt:=(BitVec.ofInt 32 4294967295 ^^^ BitVec.ofInt 32 (pV b)).isLt
 have:∀n:Nat,n<2^32→IntKind.u32.wrap (n:Int)=(n:Int):=fun n hn=>by
  have e:IntKind.u32.wrap (n:Int)=(n:Int)%4294967296:=by simp[IntKind.wrap,IntKind.bits,IntKind.signed]
  rw[e];omega
 exact this _ hlt
def WY{b:List UInt8}{v:PV}(hv:bW 1 v (aI b))(hb:b.length≤67108864)(S:St):aM T1 161 [v] S=some (.sl none (aI (iW b)) [],S):=by
 have hs:=fun S=>gh (Uc hv hb S);obtain⟨n,hn,hlt⟩:=CT b;have h0:IntKind.u8.wrap (n:Int)=((n%256:Nat):Int):=iD n;have h1:=nr (a:=n) (k:=8) (l:=.u64) (by decide);have h2:=nr (a:=n) (k:=16) (l:=.u64) (by decide);have h3:=nr (a:=n) (k:=24) (l:=.u64) (by decide);have w1:IntKind.u8.wrap ((n/2^8:Nat):Int)=((n/256%256:Nat):Int):=iD _;have w2:IntKind.u8.wrap ((n/2^16:Nat):Int)=((n/65536%256:Nat):Int):=iD _;have w3:IntKind.u8.wrap ((n/2^24:Nat):Int)=((n/16777216%256:Nat):Int):=iD _
 have e4:aI (iW b)=[.int .u8 ((n%256:Nat):Int),.int .u8 ((n/256%256:Nat):Int),.int .u8 ((n/65536%256:Nat):Int),.int .u8 ((n/16777216%256:Nat):Int)]:=by
  simp only[iW,hn,pG,aI,cV,lz];have:∀m:Nat,(UInt8.ofNat (m%256)).toNat=m%256:=fun m=>by simp
  rw[this,this,this,this]
 rw[hn]at hs;generalize ((n/2^8:Nat):Int)=x1 at h1 w1;generalize ((n/2^16:Nat):Int)=x2 at h2 w2;generalize ((n/2^24:Nat):Int)=x3 at h3 w3;rw[e4];generalize ((n%256:Nat):Int)=y0 at *;generalize ((n/256%256:Nat):Int)=y1 at *;generalize ((n/65536%256:Nat):Int)=y2 at *;generalize ((n/16777216%256:Nat):Int)=y3 at *;have h1:arith .shr (.int .u32 (n:Int)) (.int .u64 8)=some (.int .u32 x1):=h1;have h2:arith .shr (.int .u32 (n:Int)) (.int .u64 16)=some (.int .u32 x2):=h2;have h3:arith .shr (.int .u32 (n:Int)) (.int .u64 24)=some (.int .u32 x3):=h3;refine bP WX rfl ?_;simp -implicitDefEqProofs [qH,hs,h0,h1,h2,h3,w1,w2,w3,aH,cA,cc,dQ];rw[eR ⟨[],[(4,1)],by simp⟩ rfl];rfl
end Ps
set_option linter.defProp false
namespace Ps
set_option linter.unusedSimpArgs false
set_option linter.unusedVariables false
open Go Go.Proofs
structure lI(S S':St)(bv:PV)(b:List UInt8)(a:Nat)(l:List Sm):Prop where
 grows:aN S S'
 hl:∃lv,S'.objs[S.objs.length]?=some [lv]∧ad S 2 S' lv (l.map bB)
 he:S'.objs[S.objs.length+1]?=some [.int .i64 0]
 hr:S'.objs[S.objs.length+2]?=some (wW bv b a)
structure Xv(S S':St):Prop where
 grows:aN S S'
 hl:∃lv,S'.objs[S.objs.length]?=some [lv]
 he:S'.objs[S.objs.length+1]?=some [.int .i64 0]
def lI.decP{S S':St}{bv:PV}{b:List UInt8}{a:Nat}{l:List Sm}(h:lI S S' bv b a l):Xv S S':=⟨h.grows,h.hl.imp fun _ k=>k.1,h.he⟩
def lI.rd{S S':St}{bv:PV}{b:List UInt8}{a:Nat}{l:List Sm}(h:lI S S' bv b a l)(a':Nat):lI S (sr S' (S.objs.length+2) bv b a') bv b a' l:=by
 obtain⟨lv,h1,h2⟩:=h.hl;have hr:=(aO.1 h.hr).1;refine⟨iF h.grows (by omega) _,⟨lv,?_,h2.setO (by omega) _⟩,?_,Xq hr⟩
 ·simp only[sr];rw[bn (by omega)];exact h1
 ·simp only[sr];rw[bn (by omega)];exact h.he
def lI.setO{S S':St}{bv:PV}{b:List UInt8}{a:Nat}{l:List Sm}(h:lI S S' bv b a l){os:Nat}(ho:S.objs.length+3≤os)(x:List PV):lI S ⟨S'.objs.set os x,S'.tips⟩ bv b a l:=by
 obtain⟨lv,h1,h2⟩:=h.hl;refine⟨iF h.grows (by omega) _,⟨lv,?_,h2.setO (by omega) _⟩,?_,?_⟩
 ·simp only;rw[bn (by omega)];exact h1
 ·simp only;rw[bn (by omega)];exact h.he
 ·simp only;rw[bn (by omega)];exact h.hr
def Xw(b:List UInt8)(i a:Nat)(far:Int)(l:List Sm):Option (Int×Int×Nat):=
 if i=0 then(match Cs b a with|some (t,a')=>some ((t:Int),far,a')|none=>none)else
 if i=1 then(match Cs b a with|some (t,a')=>some (aR l 0+t,(t:Int),a')|none=>none)else
 match Ct b a 1099511627776 with|some (d,a')=>some (aR l (i-1)+(far+d),far+d,a')|none=>none
end Ps
namespace Ps
set_option linter.unusedSimpArgs false
set_option linter.unusedVariables false
open Go Go.Proofs
def Xx(b:List UInt8)(i a:Nat)(far:Int)(l:List Sm):Option (Int×Int×Int×Nat):=match Xw b i a far l with
 |some (T,far',a1)=>(match Ct b a1 2305843009213693952 with
  |some (v,a2)=>some (T,if 0<i then v+bS l (i-1)else v,far',a2)
  |none=>none)
 |none=>none
def PK(i:Nat)(T V far':Int):Prop:=eu T V=false∨(0<i∧far'<1)
end Ps
set_option linter.defProp false
namespace Ps
set_option linter.unusedSimpArgs false
set_option linter.unusedVariables false
open Go Go.Proofs
instance badO_dec (i:Nat)(a b c:Int):Decidable (PK i a b c):=inferInstanceAs (Decidable (_∨_))
def qq(b:List UInt8):Nat→Nat→Nat→Int→List Sm→Option (Nat×List Sm)
 |0,_,a,_,l=>some (a,l)
 |n+1,i,a,far,l=>match Xx b i a far l with
  |some (t,v,f',a')=>if PK i t v f' then none else qq b n (i+1) a' f' (l++[(t,v)])
  |none=>none
def Xy(b:List UInt8)(a:Nat):Bool:=decide (7<8*b.length-a)||(decide (0<8*b.length-a)&&decide ((b.getD (b.length-1) 0).toNat*2^(8-(8*b.length-a))%256≠0))
def decP(b:List UInt8):Option (List Sm):=match wX b 0 with
 |some (m,a0)=>if m<1∨120<m then none else(match qq b m 0 a0 0 []with
  |some (a,l)=>if Xy b a then none else some l
  |none=>none)
 |none=>none
def Xz(b:List UInt8):PV:=match decP b with
 |some l=>.tup [.sl none (l.map bB) [],.int .i64 0]
 |none=>.tup [.nils,.int .i64 5]
def YA{b:List UInt8}:∀{n i a a':Nat} {far:Int} {l l':List Sm},qq b n i a far l=some (a',l')→l'.length=l.length+n:=by
 intro n
 induction n with
 |zero=>intro i a a' far l l' h;simp only[qq,aw,bo]at h;obtain⟨_,rfl⟩:=h;rfl
 |succ n ih=>
  intro i a a' far l l' h;rw[qq]at h;split at h
  ·split at h
   ·cases h
   ·have:=ih h;simp at this;omega
  ·cases h
end Ps
namespace Ps
set_option linter.unusedSimpArgs false
set_option linter.unusedVariables false
open Go
end Ps
set_option linter.defProp false
namespace Ps
set_option linter.unusedSimpArgs false
set_option linter.unusedVariables false
open Go Go.Proofs
set_option maxRecDepth 100000
open Classical in
noncomputable def YB:List PV→St→Option (PV×St)
 | [v],S=>if h:∃b,am 1 v (aI b)∧8*b.length≤1099511627776 then some (Xz h.choose,S)else none
 |_,_=>none
noncomputable def T2:aQ:=⟨fun f=>if f=265 then some (.exs YB)else T1.fn f,T1.meth⟩
def YC{b:List UInt8}{l:List Sm}(h:decP b=some l):1≤l.length∧l.length≤120:=by
 unfold decP at h;split at h
 ·split at h
  ·cases h
  ·split at h
   ·rename_i hl;split at h
    ·cases h
    ·cases h;have:=YA hl;simp only[cO,cy]at this;omega
   ·cases h
 ·cases h
end Ps
set_option linter.defProp false
namespace Ps
set_option linter.unusedSimpArgs false
set_option linter.unusedVariables false
open Go Go.Proofs
set_option maxRecDepth 100000
def PL{l:List PV}(h:PV.frzL l=l):∀v∈l,v.frz=v:=by
 intro x hx;rw[fH]at h;obtain⟨i,hi⟩:=gC hx;have e:=congrArg (fun l=>l[i]?) h;simp only[gB,hi,jW,aw]at e;exact e
def yY{l:List PV}(h:∀v∈l,v.frz=v):PV.frzL l=l:=by
 rw[fH]
 conv=>rhs;rw[←pM l]
 exact ly fun x hx=>h x hx
def YD{sz:Nat}{v:PV}{es:List PV}(h:cF sz v es)(hf:v.free=true)(hz:v.frz=v):am sz v es:=by
 rcases h with⟨rfl,rfl⟩|⟨tip,sp,rfl,hc⟩
 ·exact ib sz
 ·simp only[PV.frz,PV.sl.injEq]at hz;obtain⟨rfl,h1,h2⟩:=hz;simp only[PV.free,aJ]at hf;exact⟨.inr ⟨sp,rfl,fun e he=>hc e (bd.2 (.inr he)),hf.2,h2⟩,fun e he=>hc e (bd.2 (.inl he)),hf.1,h1⟩
def YE{sz:Nat}{lo hi:Option PV}{v v':PV}(hf:v.free=true)(hz:v.frz=v)(h:dx sz lo hi v=some v')(hn:v=.nils∨∃es sp,v=.sl none es sp):v'.free=true∧v'.frz=v':=by
 rcases hn with rfl|⟨es,sp,rfl⟩
 ·rw[rp]at h;split at h
  ·cases h;exact⟨rfl,rfl⟩
  ·cases h
 ·rw[ry]at h;simp only[PV.frz,PV.sl.injEq,true_and]at hz;simp only[PV.free,aJ]at hf;have hF:∀x∈es++sp,x.free=true:=fun x hx=>(bd.1 hx).elim (dq hf.1 x) (dq hf.2 x);have hZ:∀x∈es++sp,x.frz=x:=fun x hx=>(bd.1 hx).elim (PL hz.1 x) (PL hz.2 x);split at h
  ·cases h
  ·split at h
   ·cases h;refine⟨?_,?_⟩
    ·simp only[PV.free,aJ];exact⟨gT fun x hx=>hF x (fm (fT hx)),gT fun x hx=>hF x (fT hx)⟩
    ·simp only[PV.frz,PV.sl.injEq];exact⟨by split<;>rfl,yY fun x hx=>hZ x (fm (fT hx)),yY fun x hx=>hZ x (fT hx)⟩
   ·cases h
def am.sub{v:PV}{es:List PV}(h:am 1 v es){lo hi:Nat}{k j:IntKind}(hl:lo≤hi)(hh:hi≤es.length):∃v',dx 1 (some (.int k (lo:Int))) (some (.int j (hi:Int))) v=some v'∧am 1 v' ((es.take hi).drop lo):=by
 obtain⟨v',h1,h2⟩:=h.isl.lh (k:=k) (j:=j) hl hh;obtain⟨q1,q2⟩:=YE h.free h.frz h1 (by rcases h.val with⟨rfl,_⟩|⟨sp,rfl,_⟩;exact .inl rfl;exact .inr ⟨_,_,rfl⟩);exact⟨v',h1,YD h2 q1 q2⟩
end Ps
set_option linter.defProp false
namespace Ps
set_option linter.unusedSimpArgs false
set_option linter.unusedVariables false
open Go Go.Proofs
set_option maxRecDepth 100000
abbrev ia:=List UInt8×List Sm
def tc(v:PV)(p:ia):Prop:=∃bv,v=.agg [bv,.int .i64 (p.2.length:Int),.int .i64 (aR p.2 0),.int .i64 (aR p.2 (p.2.length-1))]∧am 1 bv (aI p.1)∧decP p.1=some p.2∧p.1.length≤67108864
def jm(qs:List PV)(ps:List ia):Prop:=qs.length=ps.length∧∀(i:Nat) (h:i<qs.length) (h':i<ps.length),tc qs[i] ps[i]
def tc.cells {v:PV} {p:ia} (h:tc v p):v.cells.length=4:=by obtain⟨bv,rfl,_⟩:=h;rfl
def jm.cells{qs:List PV}{ps:List ia}(h:jm qs ps):∀e∈qs,e.cells.length=4:=by
 intro e he;obtain⟨i,hi,rfl⟩:=eC he;exact(h.2 i hi (by have:=h.1;omega)).cells
def jm.free{qs:List PV}{ps:List ia}(h:jm qs ps):PV.freeL qs=true:=gT fun e he=>by
 obtain⟨i,hi,rfl⟩:=eC he;obtain⟨bv,e,hb,_⟩:=h.2 i hi (by have:=h.1;omega);rw[e];simp[PV.free,PV.freeL,hb.free]
def jm.push{qs:List PV}{ps:List ia}(h:jm qs ps){v:PV}{p:ia}(hv:tc v p):jm (qs++[v]) (ps++[p]):=by
 refine⟨by simp[h.1],fun i h1 h2=>?_⟩;simp only[aZ,bE,cO]at h1 h2;by_cases hi:i<qs.length
 ·rw[List.getElem_append_left hi,List.getElem_append_left (by have:=h.1;omega)];exact h.2 i hi _
 ·have e:i=qs.length:=by omega
  subst e;rw[List.getElem_append_right (by omega),List.getElem_append_right (by have:=h.1;omega)];simpa[h.1]using hv
def jm.frz{qs:List PV}{ps:List ia}(h:jm qs ps):PV.frzL qs=qs:=yY fun e he=>by
 obtain⟨i,hi,rfl⟩:=eC he;obtain⟨bv,e,hb,_⟩:=h.2 i hi (by have:=h.1;omega);rw[e];simp[PV.frz,PV.frzL,hb.frz]
end Ps
namespace Ps
set_option linter.unusedSimpArgs false
set_option linter.unusedVariables false
open Go Go.Proofs
set_option maxRecDepth 100000
end Ps
