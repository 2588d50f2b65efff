/- Bits are laid down: uc, writer, put, PutNum. -/
import Derived.Test.YtpjmpaidcidjgaaGreatDoorDefsKb
import Derived.Test.YtpjmpaidcidjgaaGreatDoorBBKb
import Derived.Test.YtpjmpaidcidjgaaGreatDoorSimVKb
set_option linter.defProp false
namespace Ps
set_option linter.unusedSimpArgs false
set_option linter.unusedVariables false
open Go
def Wa:T.fn 260=some (.code sg):=rfl
def eS(t v:Int):Bool:=decide (0≤t)&&decide (t≤1099511627776)&&decide (-1152921504606846976≤v)&&decide (v≤1152921504606846976)
def uf(t v:Int):PV:=.agg [.int .i64 t,.int .i64 v]
def Ez(t v:Int)(S:St):aN T 260 [uf t v] S=some (.bool (eS t v),S):=by
 refine bZ Wa rfl ?_;have hp1:∀(a:PV) (m:List PV),bG false 1 (a::m)=some a:=fun a m=>by simp[bG]
 simp -implicitDefEqProofs [sg,uf,aG,hp1,eS]
def Wb:T.fn 270=some (.code sd):=rfl
def Wc:T.fn 342=some (.code sm):=rfl
def pi(k:IntKind)(a b:Int):Int:=k.wrap (BitVec.ofInt k.bits a ^^^ BitVec.ofInt k.bits b).toNat
@[simp]def aIc{k:IntKind}{a b:Int}:arith .xor (.int k a) (.int k b)=some (.int k (pi k a b)):=by simp[arith,ef,gX,pi]
def We{a:Int}:arith .shr (.int .u32 a) (.int .u64 1)=some (.int .u32 (a.fdiv 2)):=rfl
def rY(c:Int):Int:=pi .u32 (c.fdiv 2) (lS .u32 2197175160 (IntKind.u32.wrap (-lS .u32 c 1)))
def yN:Nat→Int→Int
 |0,c=>c
 |n+1,c=>yN n (rY c)
def ug(c:Int)(b:UInt8):Int:=yN 8 (pi .u32 c (IntKind.u32.wrap (b.toNat:Int)))
def ui(s:List UInt8):Int:=s.foldl ug 4294967295
def pj(s:List UInt8):Int:=IntKind.u32.wrap (BitVec.ofInt 32 4294967295 ^^^ BitVec.ofInt 32 (ui s)).toNat
def q1{a:PV}{m:List PV}:bG false 1 (a::m)=some a:=by simp[bG]
def Wf{o:List (List PV)}{c:Int}{t:List (Nat×Nat)}:aN T 342 [.ptr o.length 0] ⟨o++[[.int .u32 c]],t⟩=some (.tup [],⟨o++[[.int .u32 (rY c)]],t⟩):=by
 refine bZ Wc rfl ?_;have ho:(o++[[PV.int .u32 c]])[o.length]?=some [.int .u32 c]:=by simp
 simp -implicitDefEqProofs [sm,aG,Cj,q1,We,ho,ak];rw[wb];exact iq (b:=false) (S:=⟨o++[[.int .u32 c]],t⟩) (S1:=⟨o++[[.int .u32 (rY c)]],t⟩) (r:=.tup []) (by simp) rfl rfl rfl (fun _ _=>fg)
def Wg{v:PV}{o:List (List PV)}{t:List (Nat×Nat)}{K:List Kt}{Q:Fr→St→Prop}:∀(n j:Nat),n+j=8→∀(fr:Fr) (c:Int),fr 4=.fn 342 [.ptr o.length 0]→fr 18=.int .i64 (j:Int) →
  (∀fr',fr' 3=fr 3→fr' 4=fr 4→fr' 8=fr 8→fr' 9=fr 9→fr' 10=fr 10→Ok (aE T K fr' ⟨o++[[.int .u32 (yN n c)]],t⟩) Q) →
  Ok (aE T (.lp vv::.blk 2::K) fr ⟨o++[[.int .u32 c]],t⟩) Q:=by
 intro n
 induction n with
 |zero=>
  intro j hj fr c h4 h18 k;have hj:j=8:=by omega
  subst hj;rw[ax];simp -implicitDefEqProofs [h18]
  exact k _ (by simp) (by simp) (by simp) (by simp) (by simp)
 |succ n ih=>
  intro j hj fr c h4 h18 k;have hlt:(j:Int)<8:=by omega
  have hw:=pQ (a:=j) (by omega)
  have hL:∀fr',fr' 3=fr 3→fr' 4=fr 4→fr' 8=fr 8→fr' 9=fr 9→fr' 10=fr 10→fr' 18=.int .i64 ((j+1:Nat):Int)→Ok (aE T (.lp vv::.blk 2::K) fr' ⟨o++[[.int .u32 (rY c)]],t⟩) Q:=by
   intro fr' g3 g4 g8 g9 g10 g18;exact ih (j+1) (by omega) fr' (rY c) (by rw[g4,h4]) g18 (fun fr2 q3 q4 q8 q9 q10=>k fr2 (q3.trans g3) (q4.trans g4) (q8.trans g8) (q9.trans g9) (q10.trans g10))
  clear k ih;rw[ax];simp -implicitDefEqProofs [h18,h4,hlt,uF,Wf];exact hL _ (by simp) (by simp[h4]) (by simp) (by simp) (by simp) (by simp[hw])
def Wh{s:List UInt8}{v:PV}(hv:cM 1 v (aI s))(hs:s.length≤67108864){o:List (List PV)}{t:List (Nat×Nat)}{K:List Kt}{Q:Fr→St→Prop}:∀(rest pre:List UInt8),s=pre++rest→∀(fr:Fr) (c:Int),
  fr 3=.ptr o.length 0→fr 4=.fn 342 [.ptr o.length 0]→fr 8=v→fr 9=.int .i64 s.length→fr 10=.int .i64 (pre.length:Int) →
  (∀fr',fr' 3=.ptr o.length 0→Ok (aE T K fr' ⟨o++[[.int .u32 (rest.foldl ug c)]],t⟩) Q) →
  Ok (aE T (.lp vw::.blk 0::K) fr ⟨o++[[.int .u32 c]],t⟩) Q:=by
 intro rest
 induction rest with
 |nil=>
  intro pre hp fr c h3 h4 h8 h9 h10 k;rw[eP]at hp;subst hp;rw[ax];simp -implicitDefEqProofs [h9,h10]
  exact k _ (by simp[h3])
 |cons b rest ih=>
  intro pre hp fr c h3 h4 h8 h9 h10 k;have hi:pre.length<s.length:=by rw[hp];simp
  have hg:=hv.get pre.length (by rw[bh];exact hi) .i64;have hgx:(aI s)[pre.length]'(by rw[bh];exact hi)=.int .u8 b.toNat:=by simp[aI,hp]
  rw[hgx,EA]at hg;have hw:=pQ (a:=pre.length) (by omega)
  have hL:∀fr',fr' 3=.ptr o.length 0→fr' 4=.fn 342 [.ptr o.length 0]→fr' 8=v→fr' 9=.int .i64 s.length→fr' 10=.int .i64 ((pre.length+1:Nat):Int)→Ok (aE T (.lp vw::.blk 0::K) fr' ⟨o++[[.int .u32 (ug c b)]],t⟩) Q:=by
   intro fr' g3 g4 g8 g9 g10;exact ih (pre++[b]) (by simp[hp]) fr' _ g3 g4 g8 g9 (by simpa using g10) k
  clear k ih;have ho:(o++[[PV.int .u32 c]])[o.length]?=some [.int .u32 c]:=by simp
  rw[ax];simp -implicitDefEqProofs [-Za,h3,h8,h9,h10,hi,hg,q1,aG,Cj,ho,ak];simp -implicitDefEqProofs;refine Wg (v:=v) 8 0 rfl _ _ (by simp[h4]) (by simp) (fun fr' g3 g4 g8 g9 g10=>?_);simp at g3 g4 g8 g9 g10;simp -implicitDefEqProofs [g10,h10];exact hL _ (by simp[g3,h3]) (by simp[g4,h4]) (by simp[g8,h8]) (by simp[g9,h9]) (by simp[hw])
def Wi{s:List UInt8}{v:PV}(hv:cM 1 v (aI s))(hs:s.length≤67108864)(S:St):aN T 270 [v] S=some (.int .u32 (pj s),S):=by
 have hlen:=hv.len;rw[bh]at hlen;refine bZ Wb rfl ?_;simp -implicitDefEqProofs [sd,aG,bt,ak,hlen];refine Wh hv hs (o:=S.objs) (t:=S.tips) s [] rfl _ _ (by simp) (by simp) (by simp) (by simp) (by simp) (fun fr' g3=>?_);simp -implicitDefEqProofs [g3,Cj,q1];have hg:aL S ⟨S.objs++[[.int .u32 (s.foldl ug 4294967295)]],S.tips⟩:=(aL.refl S).obj _;rw[Sj hg];rfl
end Ps
set_option linter.defProp false
namespace Ps
set_option linter.unusedSimpArgs false
set_option linter.unusedVariables false
open Go
def eY(bs:List UInt8)(i:Nat):Bool:=(bs.getD (i/8) 0).toNat.testBit (7-i%8)
def Pk(bs:List UInt8)(l:List Bool):Prop:=bs.length=(l.length+7)/8∧∀i,i<8*bs.length→eY bs i=l.getD i false
def jZ(k:Nat):UInt8:=UInt8.ofNat (2^(7-k))
def me(bs:List UInt8)(n:Nat)(b:Bool):List UInt8:=
 let bs1:=if n%8=0 then bs++[0]else bs
 if b then bs1.set (n/8) (bs1.getD (n/8) 0 ||| jZ (n%8))else bs1
def iL:List UInt8→Nat→List Bool→List UInt8
 |bs,_,[]=>bs
 |bs,n,b::l=>iL (me bs n b) (n+1) l
def eE(u k:Nat):List Bool:=(List.range k).map fun i=>u.testBit (k-1-i)
def eZ(l:List Bool):List UInt8:=iL [] 0 l
def Ww{l:List UInt8}{i j:Nat}{x:UInt8}(h:i<l.length):(l.set i x).getD j 0=if j=i then x else l.getD j 0:=by
 simp only[List.getD_eq_getElem?_getD,lM];by_cases e:i=j
 ·subst e;simp[h]
 ·rw[if_neg e,if_neg (Ne.symm e)]
def Wy{bs:List UInt8}{i:Nat}:eY (bs++[0]) i=eY bs i:=by
 unfold eY
 congr 2
 simp only[List.getD_eq_getElem?_getD];by_cases h:i/8<bs.length
 ·rw[bK h]
 ·rw[fU (by omega),dY (l:=bs) (by omega)]
  cases e:i/8-bs.length with
  |zero=>rfl
  |succ k=>simp
def Wz{bs:List UInt8}{i:Nat}(h:8*bs.length≤i):eY bs i=false:=by
 unfold eY;rw[List.getD_eq_getElem?_getD,dY (by omega)];simp
def XA{k:Nat}(h:k<8):(jZ k).toNat=2^(7-k):=by
 unfold jZ;have:∀k,k<8→(UInt8.ofNat (2^(7-k))).toNat=2^(7-k):=by decide
 exact this k h
def FT{bs:List UInt8}{n:Nat}{b:Bool}(h:bs.length=(n+7)/8):(me bs n b).length=(n+1+7)/8:=by
 unfold me;by_cases e:n%8=0
 ·simp only[if_pos e];split<;>simp only[uP,am,bL,cW]<;>omega
 ·simp only[if_neg e];split<;>(try simp only[uP])<;>omega
def XB{bs:List UInt8}{l:List Bool}(h:Pk bs l)(b:Bool):Pk (me bs l.length b) (l++[b]):=by
 obtain⟨h1,h2⟩:=h;have hl:=FT (b:=b) h1;refine⟨by simpa using hl,fun i hi=>?_⟩;rw[hl]at hi
 have hall:∀i,eY bs i=l.getD i false:=fun i=>by
  by_cases e:i<8*bs.length
  ·exact h2 i e
  ·rw[Wz (by omega),List.getD_eq_getElem?_getD,dY (by omega)];rfl
 obtain⟨bs1,hbs1⟩:∃x,x=if l.length%8=0 then bs++[0]else bs:=⟨_,rfl⟩
 have hb1:∀i,eY bs1 i=l.getD i false:=fun i=>by
  rw[hbs1];split
  ·rw[Wy];exact hall i
  ·exact hall i
 have hlt:l.length/8<bs1.length:=by
  rw[hbs1];split
  ·simp;omega
  ·omega
 have hput:me bs l.length b=if b then bs1.set (l.length/8) (bs1.getD (l.length/8) 0 ||| jZ (l.length%8))else bs1:=by
  rw[hbs1];rfl
 have happ:(l++[b]).getD i false=if i=l.length then b else l.getD i false:=by
  simp only[List.getD_eq_getElem?_getD];by_cases e:i<l.length
  ·rw[bK e,if_neg (by omega)]
  ·by_cases e2:i=l.length
   ·subst e2;simp
   ·rw[if_neg e2,dY (by simp;omega),dY (by omega)]
 rw[hput,happ]
 cases b with
 |false=>
  simp only[cH,if_false];rw[hb1];split
  ·rename_i e;rw[e,List.getD_eq_getElem?_getD,dY (aU _)];rfl
  ·rfl
 |true=>
  simp only[if_true];unfold eY;rw[Ww hlt];by_cases e:i/8=l.length/8
  ·rw[if_pos e];have e1:=hb1 i;unfold eY at e1;rw[UInt8.toNat_or,Nat.testBit_or,XA (mV _ (by decide)),Nat.testBit_two_pow,←e,e1];by_cases e2:i=l.length
   ·subst e2;simp
   ·rw[if_neg e2];have:¬(7-l.length%8=7-i%8):=by omega
    simp[this]
  ·rw[if_neg e,if_neg (by intro q;subst q;exact e rfl)];exact hb1 i
theorem yU:∀{m:List Bool} {bs:List UInt8} {l:List Bool},Pk bs l→Pk (iL bs l.length m) (l++m)
 | [],bs,l,h=>by simpa[iL]using h
 |b::m,bs,l,h=>by
  have:=yU (m:=m) (XB h b);simpa[iL]using this
def XC:Pk [] []:=⟨rfl,fun i h=>by simp at h⟩
def rb(l:List Bool):Pk (eZ l) l:=by
 have:=yU (m:=l) XC;simpa[eZ]using this
def XD{a b:UInt8}(h:∀i,i<8→a.toNat.testBit (7-i)=b.toNat.testBit (7-i)):a=b:=by
 apply UInt8.toNat_inj.1;apply Nat.eq_of_testBit_eq;intro j;by_cases e:j<8
 ·have:=h (7-j) (by omega)
  rwa [show 7-(7-j)=j by omega]at this
 ·have ha:a.toNat<2^j:=kg a.toNat_lt (nv (by decide) (by omega:8≤j));have hb:b.toNat<2^j:=kg b.toNat_lt (nv (by decide) (by omega:8≤j));rw[Nat.testBit_lt_two_pow ha,Nat.testBit_lt_two_pow hb]
def XE{a b:List UInt8}{l:List Bool}(ha:Pk a l)(hb:Pk b l):a=b:=by
 obtain⟨a1,a2⟩:=ha;obtain⟨b1,b2⟩:=hb;apply List.ext_getElem (a1.trans b1.symm);intro i h1 h2;apply XD;intro k hk;have x:=a2 (8*i+k) (by omega);have y:=b2 (8*i+k) (by omega);rw[←y]at x;unfold eY at x;rw[show(8*i+k)/8=i by omega,show(8*i+k)%8=k by omega]at x;simpa[List.getD_eq_getElem?_getD,h1,h2]using x
def yV(l m:List Bool):eZ (l++m)=iL (eZ l) l.length m:=
 XE (rb _) (yU (rb l))
def yW(l:List Bool):(eZ l).length=(l.length+7)/8:=(rb l).1
def oE(u k:Nat):(eE u k).length=k:=by simp[eE]
def XF(u k:Nat):eE u (k+1)=u.testBit k::eE u k:=by
 apply List.ext_getElem (by simp[eE]);intro i h1 h2
 cases i with
 |zero=>simp[eE]
 |succ i=>
  simp only[eE,List.getElem_map,List.getElem_range,List.getElem_cons_succ]
  congr 1
  omega
def FU{bs:List UInt8}{l:List Bool}(h:Pk bs l)(hn:l.length%8≠0):(bs.getD (bs.length-1) 0).toNat*2^(l.length%8)%256=0:=by
 obtain⟨h1,h2⟩:=h;have hk:l.length%8<8:=mV _ (by decide)
 have hz:∀j,j<8-l.length%8→(bs.getD (bs.length-1) 0).toNat.testBit j=false:=by
  intro j hj;have:=h2 (8*(bs.length-1)+(7-j)) (by omega);unfold eY at this;rw[show(8*(bs.length-1)+(7-j))/8=bs.length-1 by omega,show 7-(8*(bs.length-1)+(7-j))%8=j by omega]at this;rw[this,List.getD_eq_getElem?_getD,dY (by omega)];rfl
 apply Nat.eq_of_testBit_eq;intro i;rw[show(256:Nat)=2^8 by rfl,Nat.testBit_mod_two_pow,Nat.zero_testBit];by_cases e:i<8
 ·rw[nu,Nat.testBit_two_pow_mul];by_cases e2:l.length%8≤i
  ·rw[hz (i-l.length%8) (by omega)];simp
  ·simp[e2]
 ·simp[e]
end Ps
set_option linter.defProp false
namespace Ps
set_option linter.unusedSimpArgs false
set_option linter.unusedVariables false
open Go
def jm{T:aV}{body:aS}{K:List Kt}{Q:Fr→St→Prop}(n:Nat)(P:Nat→Fr→St→Prop)
  (round:∀i fr S,i<n→P i fr S→(∀fr' S',P (i+1) fr' S'→Ok (aE T (.lp body::K) fr' S') Q)→Ok (aE T (.lp body::K) fr S) Q)
  (done:∀fr S,P n fr S→Ok (aE T (.lp body::K) fr S) Q) (i:Nat) (hi:i≤n) (fr:Fr) (S:St) (h:P i fr S):Ok (aE T (.lp body::K) fr S) Q:=by
 obtain⟨k,hk⟩:∃k,n-i=k:=⟨_,rfl⟩
 induction k generalizing i fr S with
 |zero=>
  have:i=n:=by omega
  subst this
  exact done fr S h
 |succ k ih=>exact round i fr S (by omega) h (fun fr' S' h'=>ih (i+1) (by omega) fr' S' h' (by omega))
def SO{fr:Fr}{S:St}{t n:Nat}{ag:Bool}:gu fr S (.cell t ag n)=dD S ag n (fr t):=by
 simp only[gu,dD];cases fr t<;>rfl
def aBZ{S S1 S2:St}{r v:PV}{fr:Fr}{raw ag:Bool}{t n:Nat}(h:dD S1 ag n (fr t)=some v)(k:aW raw S S1 v=(r,S2)):nJ [.cell t ag n] raw S r S2 fr S1:=
 ⟨[v],by simp only[cF,SO,h],k⟩
def aB0{S S1 S2:St}{r v w:PV}{fr:Fr}{raw ag:Bool}{t n u:Nat}(h:dD S1 ag n (fr t)=some v)(hu:fr u=w)(k:aW raw S S1 (.tup [v,w])=(r,S2)):nJ [.cell t ag n,.tmp u] raw S r S2 fr S1:=
 ⟨[v,w],by subst hu;rw[←SO]at h;simp only[cF,h];rfl,k⟩
structure ay(sz:Nat)(v:PV)(es:List PV):Prop where
 val:(v=.nils∧es=[])∨∃sp,v=.sl none es sp∧(∀e∈sp,e.cells.length=sz)∧PV.freeL sp=true∧PV.frzL sp=sp
 sz:∀e∈es,e.cells.length=sz
 fr:PV.freeL es=true
 fz:PV.frzL es=es
def ay.reads{sz:Nat}{v:PV}{es:List PV}(h:ay sz v es):cM sz v es:=by
 rcases h.val with⟨rfl,rfl⟩|⟨sp,rfl,_⟩
 ·exact Ck sz
 ·exact tT h.sz
def ay.isl{sz:Nat}{v:PV}{es:List PV}(h:ay sz v es):ba sz v es:=by
 rcases h.val with⟨rfl,rfl⟩|⟨sp,rfl,hs,_⟩
 ·exact .inl ⟨rfl,rfl⟩
 ·exact .inr ⟨none,sp,rfl,fun e he=>(bg.1 he).elim (h.sz e) (hs e)⟩
def ay.len{sz:Nat}{v:PV}{es:List PV}(h:ay sz v es):eN false v=some (.int .i64 es.length):=h.reads.len
def ay.free{sz:Nat}{v:PV}{es:List PV}(h:ay sz v es):v.free=true:=by
 rcases h.val with⟨rfl,rfl⟩|⟨sp,rfl,_,hf,_⟩
 ·rfl
 ·simp[PV.free,h.fr,hf]
def ay.frz{sz:Nat}{v:PV}{es:List PV}(h:ay sz v es):v.frz=v:=by
 rcases h.val with⟨rfl,rfl⟩|⟨sp,rfl,_,_,hz⟩
 ·rfl
 ·simp[PV.frz,h.fz,hz]
def ay.one{sz:Nat}{v:PV}{es:List PV}(h:ay sz v es):v.one=true∧v.cells=[v]:=by
 rcases h.val with⟨rfl,rfl⟩|⟨sp,rfl,_⟩<;>exact⟨rfl,rfl⟩
def ay.appd{sz:Nat}{v:PV}{es:List PV}(h:ay sz v es)(S:St):eg S sz v=some es:=by
 rcases h.val with⟨rfl,rfl⟩|⟨sp,rfl,_⟩
 ·rfl
 ·rw[aHU,if_pos (qZ h.sz)]
def jn(sz:Nat):ay sz .nils []:=⟨.inl ⟨rfl,rfl⟩,by simp,rfl,rfl⟩
def od{sz:Nat}{es:List PV}(h:∀e∈es,e.cells.length=sz)(hf:PV.freeL es=true)(hz:PV.frzL es=es):ay sz (.sl none es []) es:=⟨.inr ⟨[],rfl,by simp,rfl,rfl⟩,h,hf,hz⟩
def ah.sl0{S0 S:St}{sz:Nat}{v:PV}{es:List PV}(h:ah S0 sz S v es)(hs:∀e∈es,e.cells.length=sz)(hf:PV.freeL es=true)(hz:PV.frzL es=es) :
  aW false S0 S v=(jo v es,S0)∧ay sz (jo v es) es:=by
 refine⟨h.fin hf hz,?_,hs,hf,hz⟩;rcases h.acc with⟨rfl,rfl⟩|⟨id,_,rfl,_⟩
 ·exact .inl ⟨rfl,rfl⟩
 ·exact .inr ⟨[],rfl,by simp,rfl,rfl⟩
def ah.push{S0 S:St}{sz bytes:Nat}{v:PV}{es:List PV}(h:ah S0 sz S v es)(e:PV)(hb:(es.length+1)*bytes≤140737488355328) :
  ∃v' S',eh sz bytes ⟨S.objs,S.tips++[(1,sz)]⟩ v [e]=some (v',S')∧ah S0 sz S' v' (es++[e])∧S'.objs=S.objs:=by
 obtain⟨v',S',h1,h2,h3⟩:=(h.arrs [(1,sz)]).app (bytes:=bytes) [e] (by simpa using hb);exact⟨v',S',h1,h2,h3⟩
def oe(v:PV)(k:Nat):PV:=match v with|.sl _ es sp=>.sl none (es.take k) (es.drop k++sp)|_=>.nils
def ay.slc{v:PV}{es:List PV}(h:ay 1 v es){k:Nat}(hk:k≤es.length){j:IntKind}:eM 1 none (some (.int j (k:Int))) v=some (oe v k)∧ay 1 (oe v k) (es.take k):=by
 have fzd:∀{l m:List PV},PV.frzL l=l→(∀(i:Nat) (x:PV),m[i]?=some x→∃j:Nat,l[j]?=some x)→PV.frzL m=m:=by
  intro l m hl hm;rw[gL]at hl ⊢
  have key:∀x∈l,x.frz=x:=by
   intro x hx;obtain⟨i,hi⟩:=iI hx;have e:=congrArg (fun l=>l[i]?) hl;simp only[iv,hi,kh,ap]at e;exact e
  have:m.map PV.frz=m.map id:=mS fun x hx=>by
   obtain⟨i,hi⟩:=iI hx;obtain⟨q,hq⟩:=hm i x hi;exact key x (eB hq)
  rw[this,rP]
 rcases h.val with⟨rfl,rfl⟩|⟨sp,rfl,hs,hf,hz⟩
 ·have:k=0:=by simpa using hk
  subst this;exact⟨by rw[uC,wg (by omega)];rfl,jn 1⟩
 ·have hsz:∀e∈es++sp,e.cells.length=1:=fun e he=>(bg.1 he).elim (h.sz e) (hs e);refine⟨?_,.inr ⟨es.drop k++sp,rfl,?_,?_,?_⟩,fun e he=>h.sz e (kA he),il fun v hv=>eq h.fr v (kA hv),fzd h.fz fun i x hx=>?_⟩
  ·rw[uD,qZ hsz,wg (by omega)];simp only[xh,cH,if_false,oe,jz,ap];rw[lO hk,xj hk];split<;>rfl
  ·intro e he;rcases bg.1 he with he|he
   ·exact h.sz e (gN he)
   ·exact hs e he
  ·refine il fun v hv=>?_;rcases bg.1 hv with hv|hv
   ·exact eq h.fr v (gN hv)
   ·exact eq hf v hv
  ·have e1:PV.frzL (es.drop k)=es.drop k:=fzd h.fz fun i x hx=>⟨k+i,by rw[iu]at hx;exact hx⟩;rw[gL]at e1 hz ⊢;rw[eQ,e1,hz]
  ·obtain⟨q,hq⟩:=iI (kA (eB hx));exact⟨q,hq⟩
def nI:PV→Option Nat
 |.osl id _ _ _=>some id
 |_=>none
structure wU(S0:St)(sz:Nat)(S:St)(v:PV)(es:List PV):Prop where
 acc:((v=.emp∨v=.nils)∧es=[])∨∃id,S0.objs.length≤id∧v=.osl id 0 es.length sz∧S.objs[id]?=some (es.flatMap PV.cells)∧es≠[]
 ok:∀e∈es,e.cells.length=sz∧e.cells.all PV.one=true
theorem Ca{sz:Nat}:∀{es:List PV},(∀e∈es,e.cells.length=sz)→(es.flatMap PV.cells).length=es.length*sz
 | [],_=>by simp
 |e::es,h=>by
  rw[dd,am,h e (by simp),Ca (fun x hx=>h x (by simp[hx])),bL,dl];omega
def SP{es:List PV}(h:∀e∈es,e.cells.all PV.one=true):(es.flatMap PV.cells).all PV.one=true:=by
 rw[List.all_eq_true];intro x hx;obtain⟨e,he,hxe⟩:=List.mem_flatMap.1 hx;exact(List.all_eq_true.1 (h e he)) x hxe
def wU.app{S0 S:St}{sz bytes:Nat}{v:PV}{es new:List PV}(h:wU S0 sz S v es)(hg:aL S0 S)(hsz:0<sz)(hn:∀e∈new,e.cells.length=sz∧e.cells.all PV.one=true)(hb:(es.length+new.length)*bytes≤140737488355328) :
  ∃v' S',gt sz bytes S v new=some (v',S')∧wU S0 sz S' v' (es++new)∧aL S0 S'∧S'.tips=S.tips∧S.objs.length≤S'.objs.length ∧
   (∀i x,S.objs[i]?=some x→nI v≠some i→S'.objs[i]?=some x)∧(∀i,nI v'=some i→i<S.objs.length→nI v=some i)∧(v≠.nils→v'≠.nils):=by
 have hok:∀e∈es++new,e.cells.length=sz∧e.cells.all PV.one=true:=fun e he=>by
  rcases bg.1 he with he|he
  ·exact h.ok e he
  ·exact hn e he
 obtain⟨o0,t0,rfl⟩:=hg;unfold gt
 cases new with
 |nil=>
  rcases h.acc with⟨hv|hv,rfl⟩|⟨id,h1,rfl,h2,h3⟩
  ·subst hv;exact⟨.emp,_,rfl,⟨.inl ⟨.inl rfl,rfl⟩,by simp⟩,⟨o0,t0,rfl⟩,rfl,aU _,fun _ _ h _=>h,fun i h=>(by cases h),fun h=>h⟩
  ·subst hv;exact⟨.nils,_,rfl,⟨.inl ⟨.inr rfl,rfl⟩,by simp⟩,⟨o0,t0,rfl⟩,rfl,aU _,fun _ _ h _=>h,fun i h=>(by cases h),fun h=>h⟩
  ·exact⟨_,_,by simp,⟨.inr ⟨id,h1,by simp,by simpa using h2,by simpa using h3⟩,hok⟩,⟨o0,t0,rfl⟩,rfl,aU _,fun _ _ h _=>h,fun i h _=>h,fun h=>h⟩
 |cons a new=>
  have hS:∀(x:List PV) (i:Nat) (y:List PV),(S0.objs++o0)[i]?=some y→((S0.objs++o0)++[x])[i]?=some y:=fun x i y h=>by
   rw[bK (aM.1 h).1];exact h
  simp only[uN,cH,if_false]
  have fresh:es=[]→∃v' S',(if(a::new).length*bytes≤140737488355328 then some (kx ⟨S0.objs++o0,S0.tips++t0⟩ sz (a::new))else none)=some (v',S')∧wU S0 sz S' v' (es++a::new)∧aL S0 S'∧S'.tips=S0.tips++t0∧(S0.objs++o0).length≤S'.objs.length ∧
   (∀i x,(S0.objs++o0)[i]?=some x→nI v≠some i→S'.objs[i]?=some x)∧(∀i,nI v'=some i→i<(S0.objs++o0).length→nI v=some i)∧(v≠.nils→v'≠.nils):=by
   intro he;subst he;rw[if_pos (by simpa using hb)];refine⟨_,_,rfl,⟨.inr ⟨(S0.objs++o0).length,by simp,by simp,by simp,by simp⟩,hok⟩,⟨o0++[(a::new).flatMap PV.cells],t0,by simp[kx]⟩,rfl,by simp[kx],fun i x h _=>hS _ i x h,fun i h hlt=>?_,fun _ e=>by cases e⟩;simp only[kx,nI,ap]at h;omega
  rcases h.acc with⟨hv|hv,he⟩|⟨id,h1,rfl,h2,h3⟩
  ·subst hv;exact fresh he
  ·subst hv;exact fresh he
  ·have hlt:=(aM.1 h2).1;have hfl:=Ca (fun e he=>(h.ok e he).1)
   have hpos:0<(es.flatMap PV.cells).length:=by
    rw[hfl];have:0<es.length:=by cases es<;>simp at h3 ⊢
    exact Nat.mul_pos this hsz
   have htk:(es.flatMap PV.cells).take (es.length*sz)=es.flatMap PV.cells:=lP (by rw[hfl];exact aU _);simp only at h2;simp only[h2];rw[if_pos ⟨trivial,trivial,hpos,by rw[hfl];exact aU _,by rw[htk];exact SP (fun e he=>(h.ok e he).2),hb⟩,htk];refine⟨_,_,rfl,⟨.inr ⟨(S0.objs++o0).length,by simp,by simp,by simp,by simp⟩,hok⟩,⟨o0.set (id-S0.objs.length) []++[es.flatMap PV.cells++(a::new).flatMap PV.cells],t0,?_⟩,rfl,by simp,fun i x hx hne=>?_,fun i hi hlt2=>?_,fun _ e=>by cases e⟩
   ·simp only[St.mk.injEq,and_true];rw[xu _ _ h1,fi]
   ·have hne':i≠id:=fun e=>hne (by rw[e];rfl);rw[bK (by simp;have:=(aM.1 hx).1;simpa using this),bU (Ne.symm hne')];exact hx
   ·simp only[nI,ap]at hi;omega
theorem wV{objs:List (List PV)}{n0 k:Nat}:∀{l:List PV},PV.freeL l=true→cc (ai objs n0 (k+1)) l=some l
 | [],_=>rfl
 |a::l,h=>by
  simp only[PV.freeL,aJ]at h;simp only[cc,tx h.1,wV h.2]
theorem SQ{sz:Nat}(hsz:2≤sz):∀{l:List (List PV)},(∀c∈l,c.length=sz)→∀{r:List PV},db sz l.length (l.flatten++r)=l.map .agg
 | [],_,r=>rfl
 |c::l,h,r=>by
  have hc:=h c (by simp);simp only[bL,db,List.flatten_cons,cb,fi];rw[lO (by omega),lP (by omega),xj (by omega),ER (by omega),mT];rw[SQ hsz (fun x hx=>h x (by simp[hx]))]
  congr 1
  unfold tB;split
  ·rename_i a;simp at hc;omega
  ·rfl
theorem Cb:∀{l r:List PV},db 1 l.length (l++r)=l
 | [],r=>rfl
 |c::l,r=>by
  simp only[bL,db,iH,List.take_succ_cons,List.take_zero,List.drop_succ_cons,jz];rw[Cb];rfl
def Cc{objs:List (List PV)}{n0 k id n sz:Nat}{cs ds es:List PV}(hn:n0≤id)(hs:0<sz)(hc:objs[id]?=some cs)(hl:cs.length=n*sz)(ho:cs.all PV.one=true)(hm:cc (ai objs n0 k) cs=some ds)(he:db sz n ds=es) :
  ai objs n0 (k+1) (.osl id 0 n sz)=some (.sl none es []):=by
 unfold ai;have htk:cs.take (n*sz)=cs:=lP (by omega);simp only[PV.free,cH,if_false,hn,hs,and_self,if_true,hc,dO,jz,htk,ho,hl,aU,hm,he]
def SS{objs:List (List PV)}{n0 k:Nat}:ai objs n0 (k+1) .emp=some (.sl none [] []):=by
 unfold ai;simp[PV.free]
end Ps
set_option linter.defProp false
namespace Ps
set_option linter.unusedSimpArgs false
set_option linter.unusedVariables false
open Go
def bW(u:Nat):Nat:=if u=0 then 0 else u.log2+1
def XG{u n:Nat}(h1:2^n≤u)(h2:u<2^(n+1)):bW u=n+1:=by
 have h0:u≠0:=by have:=Nat.two_pow_pos n;omega
 unfold bW;rw[if_neg h0,(Nat.log2_eq_iff h0).2 ⟨h1,h2⟩]
def FV(u:Nat):u<2^bW u:=by
 unfold bW;split
 ·rename_i h;subst h;decide
 ·exact Nat.lt_log2_self
def FW{u:Nat}(h:u≠0):2^(bW u-1)≤u∧0<bW u:=by
 unfold bW;rw[if_neg h];exact⟨Nat.log2_self_le h,Nat.succ_pos _⟩
def mg{u k:Nat}(h:u<2^k):bW u≤k:=by
 by_cases h0:u=0
 ·subst h0;exact cP _
 ·obtain⟨h1,h2⟩:=FW h0;have:=(Nat.pow_lt_pow_iff_right (a:=2) (by decide)).1 (Ee h1 h);omega
def yX{u k:Nat}(h:2^k≤u):bW u=k+bW (u/2^k):=by
 have hp:=Nat.two_pow_pos k
 have h0:u/2^k≠0:=by
  have:1≤u/2^k:=(Nat.le_div_iff_mul_le hp).2 (by omega);omega
 obtain⟨a1,a2⟩:=FW h0;have a3:=FV (u/2^k);generalize hn:bW (u/2^k)=n at a1 a2 a3;obtain⟨m,rfl⟩:∃m,n=m+1:=⟨n-1,by omega⟩;rw[show m+1-1=m by omega]at a1
 have b1:2^(k+m)≤u:=by
  have:=(Nat.le_div_iff_mul_le hp).1 a1;rw[Nat.pow_add,nu];exact this
 have b2:u<2^(k+m+1):=by
  have:=(nr hp).1 a3;rw[show k+m+1=(m+1)+k by omega,Nat.pow_add];exact this
 rw[XG b1 b2];omega
def XH:T.fn 373=some (.code sw):=rfl
def XI{a k:Nat}(hk:k≤64):arith .shr (.int .u64 (a:Int)) (.int .u64 (k:Int))=some (.int .u64 ((a/2^k:Nat):Int)):=by
 have h1:¬((k:Int)<0):=by omega
 have h2:min (k:Int).toNat IntKind.u64.bits=k:=by simp[IntKind.bits];omega
 simp only[arith,ef,ld,if_true,if_neg h1,h2];rw[pS _ (by exact_mod_cast cP (2^k))]
 norm_cast
def XJ:∀x:Fin 256,([0,1,2,2,3,3,3,3,4,4,4,4,4,4,4,4,5,5,5,5,5,5,5,5,5,5,5,5,5,5,5,5,6,6,6,6,6,6,6,6,6,6,6,6,6,6,6,6,6,6,6,6,6,6,6,6,6,6,6,6,6,6,6,6,7,7,7,7,7,7,7,7,7,7,7,7,7,7,7,7,7,7,7,7,7,7,7,7,7,7,7,7,7,7,7,7,7,7,7,7,7,7,7,7,7,7,7,7,7,7,7,7,7,7,7,7,7,7,7,7,7,7,7,7,7,7,7,7,8,8,8,8,8,8,8,8,8,8,8,8,8,8,8,8,8,8,8,8,8,8,8,8,8,8,8,8,8,8,8,8,8,8,8,8,8,8,8,8,8,8,8,8,8,8,8,8,8,8,8,8,8,8,8,8,8,8,8,8,8,8,8,8,8,8,8,8,8,8,8,8,8,8,8,8,8,8,8,8,8,8,8,8,8,8,8,8,8,8,8,8,8,8,8,8,8,8,8,8,8,8,8,8,8,8,8,8,8,8,8,8,8,8,8,8,8,8,8,8,8,8,8,8,8,8,8,8]:List UInt8)[x.val]?=some (UInt8.ofNat (bW x.val)):=by decide +kernel
def FX:∀x:Fin 256,bW x.val≤8:=by decide +kernel
set_option maxRecDepth 100000 in
def XK{x:Nat}(h:x<256):fA (.str [0,1,2,2,3,3,3,3,4,4,4,4,4,4,4,4,5,5,5,5,5,5,5,5,5,5,5,5,5,5,5,5,6,6,6,6,6,6,6,6,6,6,6,6,6,6,6,6,6,6,6,6,6,6,6,6,6,6,6,6,6,6,6,6,7,7,7,7,7,7,7,7,7,7,7,7,7,7,7,7,7,7,7,7,7,7,7,7,7,7,7,7,7,7,7,7,7,7,7,7,7,7,7,7,7,7,7,7,7,7,7,7,7,7,7,7,7,7,7,7,7,7,7,7,7,7,7,7,8,8,8,8,8,8,8,8,8,8,8,8,8,8,8,8,8,8,8,8,8,8,8,8,8,8,8,8,8,8,8,8,8,8,8,8,8,8,8,8,8,8,8,8,8,8,8,8,8,8,8,8,8,8,8,8,8,8,8,8,8,8,8,8,8,8,8,8,8,8,8,8,8,8,8,8,8,8,8,8,8,8,8,8,8,8,8,8,8,8,8,8,8,8,8,8,8,8,8,8,8,8,8,8,8,8,8,8,8,8,8,8,8,8,8,8,8,8,8,8,8,8,8,8,8,8,8,8]) (.int .u8 (x:Int))=some (.int .u8 ((bW x:Nat):Int)):=by
 have h1:=XJ ⟨x,h⟩;have h2:=FX ⟨x,h⟩;simp only at h1 h2;have h3:(UInt8.ofNat (bW x)).toNat=bW x:=by simp;omega
 have h4:(0:Int)≤(x:Int):=by omega
 rw[Uy,if_pos h4,rL,h1];simp only[h3]
set_option maxRecDepth 100000 in
def XL{K:List Kt}{fr:Fr}{S:St}{Q:Fr→St→Prop}{x c:Nat}(hx:x<256)(hc:c≤56)(h0:fr 0=.int .u64 (x:Int))(h2:fr 2=.int .i64 (c:Int))(k:∀fr',fr' 2=.int .i64 ((c+bW x:Nat):Int)→Ok (aE T K fr' S) Q) :
  Ok (aE T (.ops wD::K) fr S) Q:=by
 have hw:IntKind.u8.wrap (x:Int)=(x:Int):=VE (by omega) (by omega);have h8:=FX ⟨x,hx⟩;simp only at h8;have hw1:IntKind.i64.wrap ((bW x:Nat):Int)=((bW x:Nat):Int):=au (by omega) (by omega);have hw2:IntKind.i64.wrap ((c:Int)+((bW x:Nat):Int))=((c+bW x:Nat):Int):=by rw[au]<;>omega
 simp -implicitDefEqProofs [h0,h2,hw,XK hx,hw1,hw2,-Uy];exact k _ (by simp)
def XM{u:Nat}(hu:u<2^64)(S:St):aN T 373 [.int .u64 (u:Int)] S=some (.int .i64 ((bW u:Nat):Int),S):=by
 have ed:∀(a:Int) (k:Int),0<k→a.fdiv k=a/k:=fun a k hk=>pS _ (by omega);have e32:∀a:Int,arith .shr (.int .u64 a) (.int .u64 32)=some (.int .u64 (a/4294967296)):=fun a=>by rw[←ed a _ (by decide)];rfl
 have e16:∀a:Int,arith .shr (.int .u64 a) (.int .u64 16)=some (.int .u64 (a/65536)):=fun a=>by rw[←ed a _ (by decide)];rfl
 have e8:∀a:Int,arith .shr (.int .u64 a) (.int .u64 8)=some (.int .u64 (a/256)):=fun a=>by rw[←ed a _ (by decide)];rfl
 have w1:IntKind.i64.wrap 48=48:=rfl;have w2:IntKind.i64.wrap 56=56:=rfl;have w3:IntKind.i64.wrap 40=40:=rfl;have w4:IntKind.i64.wrap 24=24:=rfl;have w5:IntKind.i64.wrap 16=16:=rfl;have w6:IntKind.i64.wrap 8=8:=rfl;refine bZ XH rfl ?_
 have fin:∀(a c:Nat) (fr:Fr),a<256→c≤56→bW u=c+bW a→fr 0=.int .u64 (a:Int)→fr 2=.int .i64 (c:Int) →
   Ok (aE T [.ops wD,.clr [(19,25)],.code .ret] fr S) (nJ [.tmp 2] false S (.int .i64 ((bW u:Nat):Int)) S):=by
  intro a c fr ha hc hac h0 h2;refine XL ha hc h0 h2 (fun fr' g=>?_);simp[g,hac,aL.refl]
 have s32:4294967296≤u→bW u=32+bW (u/4294967296):=fun h=>yX (k:=32) h;have s16:∀a,65536≤a→bW a=16+bW (a/65536):=fun a h=>yX (k:=16) h;have s8:∀a,256≤a→bW a=8+bW (a/256):=fun a h=>yX (k:=8) h;simp -implicitDefEqProofs [sw,-Zb,e32,e16,e8,w1,w2,w3,w4,w5,w6];refine cA (fun a1=>cA (fun a2=>cA (fun a3=>?_) (fun a3=>?_)) (fun a2=>cA (fun a3=>?_) (fun a3=>?_))) (fun a1=>cA (fun a2=>cA (fun a3=>?_) (fun a3=>?_)) (fun a2=>cA (fun a3=>?_) (fun a3=>?_)))
 all_goals simp only[decide_eq_true_eq,decide_eq_false_iff_not]at a1 a2 a3
 ·refine fin (u/4294967296/65536/256) 56 _ (by omega) (by omega) ?_ (by simp) (by simp);rw[s32 (by omega),s16 _ (by omega),s8 _ (by omega)];omega
 ·refine fin (u/4294967296/65536) 48 _ (by omega) (by omega) ?_ (by simp) (by simp);rw[s32 (by omega),s16 _ (by omega)];omega
 ·refine fin (u/4294967296/256) 40 _ (by omega) (by omega) ?_ (by simp) (by simp);rw[s32 (by omega),s8 _ (by omega)];omega
 ·refine fin (u/4294967296) 32 _ (by omega) (by omega) ?_ (by simp) (by simp);rw[s32 (by omega)]
 ·refine fin (u/65536/256) 24 _ (by omega) (by omega) ?_ (by simp) (by simp);rw[s16 _ (by omega),s8 _ (by omega)];omega
 ·refine fin (u/65536) 16 _ (by omega) (by omega) ?_ (by simp) (by simp);rw[s16 _ (by omega)]
 ·refine fin (u/256) 8 _ (by omega) (by omega) ?_ (by simp) (by simp);rw[s8 _ (by omega)]
 ·refine fin u 0 _ (by omega) (by omega) (by omega) (by simp) (by simp)
def FY{u:Nat}(hu:u<2^64):fc T 373 [.int .u64 (u:Int)]=some (.int .i64 ((bW u:Nat):Int)):=pP (XM hu cS) rfl
def XN:T.fn 413=some (.code sx):=rfl
def XO{n:Nat}(hn:n<4611686018427387904)(S:St):aN T 413 [.int .i64 (n:Int)] S=some (.int .i64 (((n+7)/8:Nat):Int),S):=by
 have h1:((n:Int).tmod 8)=((n%8:Nat):Int):=by rw[uJ (by omega)];omega
 have h2:((n:Int).tdiv 8)=((n/8:Nat):Int):=by rw[Int.tdiv_eq_ediv_of_nonneg (by omega)];omega
 have w1:IntKind.i64.wrap ((n/8:Nat):Int)=((n/8:Nat):Int):=au (by omega) (by omega);have w2:IntKind.i64.wrap (((n/8:Nat):Int)+1)=((n/8+1:Nat):Int):=by rw[au]<;>omega
 refine bZ XN rfl ?_;simp -implicitDefEqProofs [sx,h1,h2,w1,w2,-Int.natCast_ediv,-Int.natCast_emod,-Int.natCast_add];refine cA (fun a=>?_) (fun a=>?_)
 ·have:(n+7)/8=n/8:=by simp at a;omega
  simp[this,aL.refl]
 ·have:(n+7)/8=n/8+1:=by simp at a;omega
  simp[this,aL.refl]
def XP{n:Nat}(hn:n<4611686018427387904):fc T 413 [.int .i64 (n:Int)]=some (.int .i64 (((n+7)/8:Nat):Int)):=pP (XO hn cS) rfl
end Ps
set_option linter.defProp false
namespace Ps
set_option linter.unusedSimpArgs false
set_option linter.unusedVariables false
open Go
def yY(bs:List UInt8)(n:Nat):Prop:=bs.length=(n+7)/8∧(n%8≠0→(bs.getD (bs.length-1) 0).toNat*2^(n%8)%256=0)
def Pk.rightB{bs:List UInt8}{l:List Bool}(h:Pk bs l):yY bs l.length:=⟨h.1,fun hn=>FU h hn⟩
def XQ:T.fn 404=some (.code z53):=rfl
def fN{a b:PV}:bG true 2 [a,b]=some (.agg [a,b]):=rfl
def bD{a:PV}{m:List PV}:bG false 1 (a::m)=some a:=by simp[bG]
def XR{a k:Nat}(hk:k≤8):arith .shl (.int .u8 (a:Int)) (.int .i64 (k:Int))=some (.int .u8 ((a*2^k%256:Nat):Int)):=by
 have h1:¬((k:Int)<0):=by omega
 have h2:min (k:Int).toNat IntKind.u8.bits=k:=by simp[IntKind.bits];omega
 simp only[arith,ef,ld,if_true,if_neg h1,h2];have:(a:Int)*2^k=((a*2^k:Nat):Int):=by norm_cast
 rw[this,mc]
def FZ{bs:List UInt8}{bv:PV}(hv:ay 1 bv (aI bs)){n:Nat}(hn:n<4611686018427387904)(hr:yY bs n)(S:St):aN T 404 [.agg [bv,.int .i64 (n:Int)]] S=some (.bool true,S):=by
 obtain⟨r1,r2⟩:=hr;have hlen:=hv.len;obtain⟨o1,o2⟩:=hv.one;rw[bh]at hlen;have h0:¬((n:Int)<0):=by omega
 have hne:ip T 413 [.int .i64 (n:Int)]=some (.int .i64 (((n+7)/8:Nat):Int)):=(uG rfl).trans (XP hn);have hm:((n:Int).tmod 8)=((n%8:Nat):Int):=by rw[uJ (by omega)];omega
 refine bZ XQ rfl ?_;by_cases h8:n%8=0
 ·have hz:(((n%8:Nat):Int)==0)=true:=by rw[h8];rfl
  simp -implicitDefEqProofs [z53,aG,bD,o1,o2,hlen,h0,hne,r1,hm,hz,-Int.natCast_ediv,-Int.natCast_emod,-Int.natCast_add]
 ·have hz:(((n%8:Nat):Int)==0)=false:=by simp;omega
  have hpos:0<bs.length:=by omega
  have hw:IntKind.i64.wrap (((bs.length:Nat):Int)-1)=((bs.length-1:Nat):Int):=by rw[au]<;>omega
  have hg:=hv.reads.get (bs.length-1) (by rw[bh];omega) .i64
  have hgx:(aI bs)[bs.length-1]'(by rw[bh];omega)=.int .u8 ((bs.getD (bs.length-1) 0).toNat:Int):=by
   simp[aI,List.getD_eq_getElem?_getD,List.getElem?_eq_getElem (show bs.length-1<bs.length by omega)]
  rw[hgx,EA]at hg;have hs:=XR (a:=(bs.getD (bs.length-1) 0).toNat) (k:=n%8) (by omega);rw[r2 h8]at hs;generalize (((bs.getD (bs.length-1) 0).toNat:Nat):Int)=x at hg hs;simp -implicitDefEqProofs [z53,aG,bD,o1,o2,hlen,h0,hne,←r1,hm,hz,hw,hg,hs,-Int.natCast_ediv,-Int.natCast_emod,-Int.natCast_add]
end Ps
