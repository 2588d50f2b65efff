/- Labels read; what is laid down is read back (out of the label seat's texts) -/
import Derived.Test.YtbjefjhmnojdoaaGreatDefs
import Derived.Test.YtbjefjhmnojdoaaGreatLK
set_option linter.defProp false
namespace Ps
set_option linter.unusedSimpArgs false
set_option linter.unusedVariables false
open Go
def aDT:T.fn 31=some (.code qw):=rfl
def aDU:T.fn 32=some (.code qi):=rfl
def WM{s:List UInt8}{v:PV}(hv:bG 1 v (aL s)){n nx:Nat}(h1:nx≤s.length)(h2:n≤s.length-nx) :
  ∃v',eQ 1 (some (.int .i64 (nx:Int))) (some (.int .i64 ((nx:Int)+(n:Int)))) v=some v'∧iu v'=some (.str ((s.drop nx).take n)):=by
 obtain⟨v',e1,e2⟩:=hv.lh (lo:=nx) (hi:=nx+n) (k:=.i64) (j:=.i64) (by omega) (by rw[bO];omega);refine⟨v',by simpa using e1,mZ ?_⟩
 have:(List.drop nx (List.take (nx+n) (aL s)))=aL ((s.drop nx).take n):=by
  simp only[aL,←sd,←List.map_drop];rw[List.drop_take]
  congr 2
  omega
 rw[this]at e2;exact e2
def WN{s:List UInt8}{v:PV}(hv:bG 1 v (aL s))(hs:s.length≤67108864){i:Int}(S:St):aO T 111 [v,.int .i64 i] S=some (jL (fN s i),S):=by
 have hlen:=hv.len;rw[bO]at hlen;have hg:=ui hv hs (i:=i) S;have hok:=kK (s:=s) (i:=i);unfold fN;obtain⟨⟨n,nx,e⟩,hu⟩:∃q,bD s i=q:=⟨_,rfl⟩;rw[hu]at hg hok;simp only[hT]at hg hok;simp only[hu];generalize hR:(if e≠0 then(([],0,e):List UInt8×Nat×Nat)else _)=R;refine aW aDJ rfl ?_;simp -implicitDefEqProofs [z33,hg];refine bX (fun c=>?_) (fun c=>?_)
 ·have hc:e≠0:=by simpa using c
  rw[if_pos hc]at hR;subst hR;simp[jL];rw[cN (aP.refl S) rfl];rfl
 ·have hc:e=0:=by simpa using c
  subst hc;obtain⟨o1,o2⟩:=hok rfl;rw[if_neg (by decide)]at hR;refine bX (fun c=>?_) (fun c=>?_)
  ·have hc:65535<n:=by simp at c;omega
   rw[if_pos hc]at hR;subst hR;simp[jL];rw[cN (aP.refl S) rfl];rfl
  ·have hc:¬65535<n:=by simp at c;omega
   rw[if_neg hc]at hR;have hw:IntKind.i64.wrap ((s.length:Int)-(nx:Int))=(s.length:Int)-(nx:Int):=by rw[bJ (by omega) (by omega)]
   simp -implicitDefEqProofs [hlen,hw];refine bX (fun c=>?_) (fun c=>?_)
   ·have hc:s.length-nx<n:=by simp at c;omega
    rw[if_pos hc]at hR;subst hR;simp[jL];rw[cN (aP.refl S) rfl];rfl
   ·have hc:¬s.length-nx<n:=by simp at c;omega
    rw[if_neg hc]at hR;subst hR;obtain⟨v',e1,e2⟩:=WM hv (n:=n) (nx:=nx) o1 (by omega);have hw2:IntKind.i64.wrap ((nx:Int)+(n:Int))=(nx:Int)+(n:Int):=by rw[bJ (by omega) (by omega)]
    simp -implicitDefEqProofs [hw2,e1,e2,jL];rw[cN (aP.refl S) rfl];rfl
def WO{s:List UInt8}{v:PV}(hv:bG 1 v (aL s))(hs:s.length≤67108864){i:Int}(S:St):aO T 113 [v,.int .i64 i] S=some (jL (fN s i),S):=by
 have hlen:=hv.len;rw[bO]at hlen;have hg:=uj hv hs (i:=i) S;have hok:=kK (s:=s) (i:=i);unfold fN;obtain⟨⟨n,nx,e⟩,hu⟩:∃q,bD s i=q:=⟨_,rfl⟩;rw[hu]at hg hok;simp only[hT]at hg hok;simp only[hu];generalize hR:(if e≠0 then(([],0,e):List UInt8×Nat×Nat)else _)=R;refine aW aDL rfl ?_;simp -implicitDefEqProofs [tM,hg];refine bX (fun c=>?_) (fun c=>?_)
 ·have hc:e≠0:=by simpa using c
  rw[if_pos hc]at hR;subst hR;simp[jL];rw[cN (aP.refl S) rfl];rfl
 ·have hc:e=0:=by simpa using c
  subst hc;obtain⟨o1,o2⟩:=hok rfl;rw[if_neg (by decide)]at hR;refine bX (fun c=>?_) (fun c=>?_)
  ·have hc:65535<n:=by simp at c;omega
   rw[if_pos hc]at hR;subst hR;simp[jL];rw[cN (aP.refl S) rfl];rfl
  ·have hc:¬65535<n:=by simp at c;omega
   rw[if_neg hc]at hR;have hw:IntKind.i64.wrap ((s.length:Int)-(nx:Int))=(s.length:Int)-(nx:Int):=by rw[bJ (by omega) (by omega)]
   simp -implicitDefEqProofs [hlen,hw];refine bX (fun c=>?_) (fun c=>?_)
   ·have hc:s.length-nx<n:=by simp at c;omega
    rw[if_pos hc]at hR;subst hR;simp[jL];rw[cN (aP.refl S) rfl];rfl
   ·have hc:¬s.length-nx<n:=by simp at c;omega
    rw[if_neg hc]at hR;subst hR;obtain⟨v',e1,e2⟩:=WM hv (n:=n) (nx:=nx) o1 (by omega);have hw2:IntKind.i64.wrap ((nx:Int)+(n:Int))=(nx:Int)+(n:Int):=by rw[bJ (by omega) (by omega)]
    simp -implicitDefEqProofs [hw2,e1,e2,jL];rw[cN (aP.refl S) rfl];rfl
def yz{s:List UInt8}{i:Int}:(fN s i).1.length≤65535:=by
 unfold fN;split
 ·simp
 ·split
  ·simp
  ·split
   ·simp
   ·simp only[List.length_take];omega
def cb(s:List UInt8):Nat→Nat→List bn→List bn×Nat×Nat
 |0,i,l=>(l,i,0)
 |m+1,i,l=>if(fN s (i:Int)).2.2≠0 then([],0,(fN s (i:Int)).2.2)else
  if(fN s ((fN s (i:Int)).2.1:Nat)).2.2≠0 then([],0,(fN s ((fN s (i:Int)).2.1:Nat)).2.2)else
  cb s m (fN s ((fN s (i:Int)).2.1:Nat)).2.1 (l++[((fN s (i:Int)).1,(fN s ((fN s (i:Int)).2.1:Nat)).1,())])
def hU(s:List UInt8)(i:Int):List bn×Nat×Nat:=
 if(bD s i).2.2≠0 then([],0,(bD s i).2.2)else if 8<(bD s i).1 then([],0,3)else
 if(cb s (bD s i).1 (bD s i).2.1 []).2.2≠0 then([],0,(cb s (bD s i).1 (bD s i).2.1 []).2.2)else
 if eV (cb s (bD s i).1 (bD s i).2.1 []).1≠0 then([],0,5)else((cb s (bD s i).1 (bD s i).2.1 []).1,(cb s (bD s i).1 (bD s i).2.1 []).2.1,0)
def aDV{s:List UInt8}{v:PV}(hv:bG 1 v (aL s))(hs:s.length≤67108864){N:Nat}(hN:N≤8){S0:St}{K:List Kt}{Q:Fr→St→Prop}:∀(m i:Nat) (l:List bn),l.length+m=N→(∀x∈l,x.1.length≤maxLen)→∀(fr:Fr) (S:St),
  fr 0=v→fr 1=.int .i64 (i:Int)→fr 7=.int .i64 (N:Int)→fr 8=.int .i64 0→bB S0 2 S (fr 9) (l.map bt) →
  ((cb s m i l).2.2=0→∀fr' S',fr' 1=.int .i64 ((cb s m i l).2.1:Int)→fr' 8=.int .i64 0→bB S0 2 S' (fr' 9) ((cb s m i l).1.map bt)→(∀x∈(cb s m i l).1,x.1.length≤maxLen)→(cb s m i l).1.length=N→Ok (aJ T K fr' S') Q) →
  ((cb s m i l).2.2≠0→∀fr' S',aP S0 S'→fr' 8=.int .i64 ((cb s m i l).2.2:Int)→Ok (aJ T K fr' S') Q) →
  Ok (aJ T (.lp Bl::.blk 0::K) fr S) Q:=by
 intro m
 induction m with
 |zero=>
  intro i l hl hn fr S h0 h1 h7 h8 ha k1 k2;have hlen:=ha.len;rw[List.length_map]at hlen;have hlt:¬(l.length:Int)<(N:Int):=by omega
  rw[af];simp -implicitDefEqProofs [h7,h8,hlen,hlt]
  exact k1 rfl _ _ (by simp[h1,cb]) (by simp[h8]) (by simpa[cb]using ha) hn (by simpa[cb]using hl)
 |succ m ih=>
  intro i l hl hn fr S h0 h1 h7 h8 ha k1 k2;have hlen:=ha.len;rw[List.length_map]at hlen;have hlt:(l.length:Int)<(N:Int):=by omega
  have hx1:=fun S=>WN hv hs (i:=(i:Int)) S;have hl1:=yz (s:=s) (i:=(i:Int));rw[cb]at k1 k2;obtain⟨⟨nm,nx,e⟩,hX⟩:∃q,fN s (i:Int)=q:=⟨_,rfl⟩;rw[hX]at k1 k2 hl1;simp only[hX,jL]at hx1;simp only at k1 k2 hl1;have hp0:aR [PV.str [],PV.str []] 0 [.str nm]=[.str nm,.str []]:=rfl;rw[af];simp -implicitDefEqProofs [h0,h1,h7,h8,hlen,hlt,aI,hx1,aR];refine bX (fun c=>?_) (fun c=>?_)
  ·have hc:e=0:=by simpa using c
   subst hc;have hx2:=fun S=>WN hv hs (i:=(nx:Int)) S;have hl2:=yz (s:=s) (i:=(nx:Int));rw[if_neg (by decide)]at k1 k2;obtain⟨⟨vl,nx2,e2⟩,hX2⟩:∃q,fN s (nx:Int)=q:=⟨_,rfl⟩;rw[hX2]at k1 k2 hl2;simp only[hX2,jL]at hx2;simp only at k1 k2 hl2;obtain⟨v',S',f1,f2,f3⟩:=((ha.objs [[.str nm,.str vl]]).arrs [(1,2)]).app (bytes:=32) [bt (nm,vl,())] (by simp;omega);simp only[bt]at f1;simp -implicitDefEqProofs [h0,hx2,aI,aR,p2,bL,bR,f1];by_cases hc2:e2=0
   ·subst hc2;rw[if_neg (by decide)]at k1 k2
    exact ih nx2 (l++[(nm,vl,())]) (by simp;omega) (fun x hx=>by
     rcases dA.1 hx with hx|hx
     ·exact hn x hx
     ·simp at hx;subst hx;simp only;unfold maxLen;omega) _ S' (by simp[h0]) (by simp) (by simp[h7]) (by simp) (by simpa[bt]using f2) k1 k2
   ·rw[if_pos hc2]at k1 k2;have hne:((e2:Int)==0)=false:=by simpa using hc2
    rw[af];simp -implicitDefEqProofs [hne];refine k2 hc2 _ _ f2.grows ?_;simp
  ·have hc:e≠0:=by simpa using c
   rw[if_pos hc]at k1 k2;obtain⟨v',S',f1,f2,f3⟩:=((ha.objs [[.str nm,.str []]]).arrs [(1,2)]).app (bytes:=32) [bt (nm,[],())] (by simp;omega);simp only[bt]at f1;simp -implicitDefEqProofs [p2,aI,bL,bR,f1];have hne:((e:Int)==0)=false:=by simpa using hc
   rw[af];simp -implicitDefEqProofs [hne];refine k2 hc _ _ f2.grows ?_;simp
def WP{S S':St}{v:PV}{l:List bn}{n e:Nat}(ha:bB S 2 S' v (l.map bt)):ac false S S' (.tup [v,.int .i64 (n:Int),.int .i64 (e:Int)])=(.tup [bo v (l.map bt),.int .i64 (n:Int),.int .i64 (e:Int)],S):=by
 have hf:v.free=true∧v.frz=bo v (l.map bt):=by
  rcases ha.acc with⟨h,_⟩|⟨id,_,h,_⟩
  ·rw[h];exact⟨rfl,rfl⟩
  ·rw[h];exact⟨by simp[PV.free,Dm,PV.freeL],by simp[bo,PV.frz,Do,PV.frzL]⟩
 rw[cN ha.grows (by simp[PV.free,PV.freeL,hf.1])];simp[PV.frz,PV.frzL,hf.2]
def rV(x:List bn×Nat×Nat)(r:PV):Prop:=∃v',r=.tup [v',.int .i64 (x.2.1:Int),.int .i64 (x.2.2:Int)]∧ug v' x.1
def WQ:ug .nils []:=⟨.inl ⟨rfl,rfl⟩,rfl,rfl⟩
def aDW{s:List UInt8}{v:PV}(hv:bG 1 v (aL s))(hs:s.length≤67108864){i:Int}(S:St):∃r,aO T 31 [v,.int .i64 i] S=some (r,S)∧rV (hU s i) r:=by
 have key:=eB (T:=T) (f:=31) (c:=qw) aDT (args:=[v,.int .i64 i]) (S:=S) rfl (R:=fun r S2=>S2=S∧rV (hU s i) r) ?_
 ·obtain⟨r,S2,h1,rfl,h2⟩:=key;exact⟨r,h1,h2⟩
 have hg:=ui hv hs (i:=i) S;have hok:=kK (s:=s) (i:=i);generalize hR:hU s i=R;unfold hU at hR;obtain⟨⟨n,nx,e⟩,hu⟩:∃q,bD s i=q:=⟨_,rfl⟩;rw[hu]at hg hok;simp only[hT]at hg hok;simp only[hu]at hR
 have fin_no:∀(fr:Fr) (S':St) (e:Nat),R=([],0,e)→aP S S'→(ac false S S' (.tup [.nils,.int .i64 0,.int .i64 (e:Int)])).2=S∧rV R (ac false S S' (.tup [.nils,.int .i64 0,.int .i64 (e:Int)])).1:=by
  intro fr S' e hR hg;rw[cN hg rfl];exact⟨rfl,.nils,by rw[hR];rfl,by rw[hR];exact WQ⟩
 simp -implicitDefEqProofs [qw,hg];refine bX (fun c=>?_) (fun c=>?_)
 ·obtain⟨h1,h2⟩:e=0∧8<n:=by simp at c;omega
  subst h1;rw[if_neg (by decide),if_pos h2]at hR;simp -implicitDefEqProofs;rw[af];simp -implicitDefEqProofs;exact fin_no Fr.bot S 3 hR.symm (aP.refl S)
 ·by_cases he:e=0
  ·subst he;have hn:¬8<n:=by simp at c;omega
   rw[if_neg (by decide),if_neg hn]at hR;simp -implicitDefEqProofs;refine aDV hv hs (N:=n) (by omega) (S0:=S) n nx [] (by simp) (fun x hx=>by simp at hx) _ S (by simp) (by simp) (by simp) (by simp) (by simpa using ip 2 (aP.refl S)) (fun hz fr' S' g1 g8 ha hnm hlen=>?_) (fun hz fr' S' hg g8=>?_)
   ·rw[if_neg (by rw[hz];decide)]at hR;have hck:=Dj (ha.isSl (yq _)).reads hnm (by rw[hlen];unfold maxLen;omega) S';simp -implicitDefEqProofs [g8,hck];refine bX (fun d=>?_) (fun d=>?_)
    ·have hd:eV (cb s n nx []).1≠0:=by simpa using d
     rw[if_pos hd]at hR;simp -implicitDefEqProofs;exact fin_no Fr.bot S' 5 hR.symm ha.grows
    ·have hd:¬eV (cb s n nx []).1≠0:=by simpa using d
     rw[if_neg hd]at hR;subst hR;have hf:=WP (n:=(cb s n nx []).2.1) (e:=0) ha;simp -implicitDefEqProofs [g1,g8];have hf':ac false S S' (.tup [fr' 9,.int .i64 ((cb s n nx []).2.1:Int),.int .i64 0])=(.tup [bo (fr' 9) ((cb s n nx []).1.map bt),.int .i64 ((cb s n nx []).2.1:Int),.int .i64 0],S):=hf;rw[hf'];exact⟨rfl,_,rfl,WI ha⟩
   ·rw[if_pos hz]at hR;have hne:¬(((cb s n nx []).2.2:Int)=0):=by omega
    have hne2:(((cb s n nx []).2.2:Int) != 0)=true:=by simpa using hne
    have hneb:(((cb s n nx []).2.2:Int)==0)=false:=by simpa using hne
    simp -implicitDefEqProofs [g8,hneb,hne2];exact fin_no Fr.bot S' _ hR.symm hg
  ·have hne:¬((e:Int)=0):=by omega
   have hneb:((e:Int)==0)=false:=by simpa using hne
   have hne2:((e:Int) != 0)=true:=by simpa using hne
   rw[if_pos he]at hR;rw[af];simp -implicitDefEqProofs [hneb,hne2];exact fin_no Fr.bot S _ hR.symm (aP.refl S)
def aDX{s:List UInt8}{v:PV}(hv:bG 1 v (aL s))(hs:s.length≤67108864){N:Nat}(hN:N≤8){S0:St}{K:List Kt}{Q:Fr→St→Prop}:∀(m i:Nat) (l:List bn),l.length+m=N→(∀x∈l,x.1.length≤maxLen)→∀(fr:Fr) (S:St),
  fr 0=v→fr 1=.int .i64 (i:Int)→fr 7=.int .i64 (N:Int)→fr 10=.int .i64 (l.length:Int)→bB S0 2 S (fr 9) (l.map bt) →
  ((cb s m i l).2.2=0→∀fr' S',fr' 1=.int .i64 ((cb s m i l).2.1:Int)→bB S0 2 S' (fr' 9) ((cb s m i l).1.map bt)→(∀x∈(cb s m i l).1,x.1.length≤maxLen)→(cb s m i l).1.length=N→Ok (aJ T K fr' S') Q) →
  ((cb s m i l).2.2≠0→∀fr' S',aP S0 S'→fr' 4=.nils→fr' 5=.int .i64 0→fr' 6=.int .i64 ((cb s m i l).2.2:Int)→Q fr' S') →
  Ok (aJ T (.lp BF::.blk 0::K) fr S) Q:=by
 intro m
 induction m with
 |zero=>
  intro i l hl hn fr S h0 h1 h7 h10 ha k1 k2;have hlt:¬(l.length:Int)<(N:Int):=by omega
  rw[af];simp -implicitDefEqProofs [h7,h10,hlt]
  exact k1 rfl _ _ (by simp[h1,cb]) (by simpa[cb]using ha) hn (by simpa[cb]using hl)
 |succ m ih=>
  intro i l hl hn fr S h0 h1 h7 h10 ha k1 k2;have hlt:(l.length:Int)<(N:Int):=by omega
  have hw:=dR (a:=l.length) (by omega);have hx1:=fun S=>WO hv hs (i:=(i:Int)) S;have hl1:=yz (s:=s) (i:=(i:Int));rw[cb]at k1 k2;obtain⟨⟨nm,nx,e⟩,hX⟩:∃q,fN s (i:Int)=q:=⟨_,rfl⟩;rw[hX]at k1 k2 hl1;simp only[hX,jL]at hx1;simp only at k1 k2 hl1;rw[af];simp -implicitDefEqProofs [h0,h1,h7,h10,hlt,hx1];refine bX (fun c=>?_) (fun c=>?_)
  ·have hc:e≠0:=by simpa using c
   rw[if_pos hc]at k1 k2;refine cV (k2 hc _ _ ha.grows ?_ ?_ ?_)<;>simp
  ·have hc:e=0:=by simpa using c
   subst hc;have hx2:=fun S=>WO hv hs (i:=(nx:Int)) S;have hl2:=yz (s:=s) (i:=(nx:Int));rw[if_neg (by decide)]at k1 k2;obtain⟨⟨vl,nx2,e2⟩,hX2⟩:∃q,fN s (nx:Int)=q:=⟨_,rfl⟩;rw[hX2]at k1 k2 hl2;simp only[hX2,jL]at hx2;simp only at k1 k2 hl2;simp -implicitDefEqProofs [h0,hx2];refine bX (fun d=>?_) (fun d=>?_)
   ·have hd:e2≠0:=by simpa using d
    rw[if_pos hd]at k1 k2;refine cV (k2 hd _ _ ha.grows ?_ ?_ ?_)<;>simp
   ·have hd:e2=0:=by simpa using d
    subst hd;rw[if_neg (by decide)]at k1 k2;obtain⟨v',S',f1,f2,f3⟩:=(ha.arrs [(1,2)]).app (bytes:=32) [bt (nm,vl,())] (by simp;omega);simp only[bt]at f1;simp -implicitDefEqProofs [h10,aQ,bK,aI,aR,bL,bR,f1]
    exact ih nx2 (l++[(nm,vl,())]) (by simp;omega) (fun x hx=>by
     rcases dA.1 hx with hx|hx
     ·exact hn x hx
     ·simp at hx;subst hx;simp only;unfold maxLen;omega) _ S' (by simp[h0]) (by simp) (by simp[h7]) (by simp[hw]) (by simpa[bt]using f2) k1 k2
def aDY{s:List UInt8}{v:PV}(hv:bG 1 v (aL s))(hs:s.length≤67108864){i:Int}(S:St):∃r,aO T 32 [v,.int .i64 i] S=some (r,S)∧rV (hU s i) r:=by
 have key:=eB (T:=T) (f:=32) (c:=qi) aDU (args:=[v,.int .i64 i]) (S:=S) rfl (R:=fun r S2=>S2=S∧rV (hU s i) r) ?_
 ·obtain⟨r,S2,h1,rfl,h2⟩:=key;exact⟨r,h1,h2⟩
 have hg:=uj hv hs (i:=i) S;have hok:=kK (s:=s) (i:=i);generalize hR:hU s i=R;unfold hU at hR;obtain⟨⟨n,nx,e⟩,hu⟩:∃q,bD s i=q:=⟨_,rfl⟩;rw[hu]at hg hok;simp only[hT]at hg hok;simp only[hu]at hR
 have fin_no:∀(S':St) (e:Nat),R=([],0,e)→aP S S'→(ac false S S' (.tup [.nils,.int .i64 0,.int .i64 (e:Int)])).2=S∧rV R (ac false S S' (.tup [.nils,.int .i64 0,.int .i64 (e:Int)])).1:=by
  intro S' e hR hg;rw[cN hg rfl];exact⟨rfl,.nils,by rw[hR];rfl,by rw[hR];exact WQ⟩
 simp -implicitDefEqProofs [qi,hg];refine bX (fun c=>?_) (fun c=>?_)
 ·have hc:e≠0:=by simpa using c
  rw[if_pos hc]at hR;simp -implicitDefEqProofs;exact fin_no S e hR.symm (aP.refl S)
 ·have hc:e=0:=by simpa using c
  subst hc;rw[if_neg (by decide)]at hR;refine bX (fun d=>?_) (fun d=>?_)
  ·have hd:8<n:=by simp at d;omega
   rw[if_pos hd]at hR;simp -implicitDefEqProofs;exact fin_no S 3 hR.symm (aP.refl S)
  ·have hd:¬8<n:=by simp at d;omega
   rw[if_neg hd]at hR;refine aDX hv hs (N:=n) (by omega) (S0:=S) n nx [] (by simp) (fun x hx=>by simp at hx) _ S (by simp) (by simp) (by simp) (by simp) (by simpa using ip 2 (aP.refl S)) (fun hz fr' S' g1 ha hnm hlen=>?_) (fun hz fr' S' hg g4 g5 g6=>?_)
   ·rw[if_neg (by rw[hz];decide)]at hR;have hck:=WE (ha.isSl (yq _)).reads hnm (by rw[hlen];unfold maxLen;omega) S';simp -implicitDefEqProofs [hck];refine bX (fun d=>?_) (fun d=>?_)
    ·have hd:eV (cb s n nx []).1≠0:=by simpa using d
     rw[if_pos hd]at hR;simp -implicitDefEqProofs;exact fin_no S' 5 hR.symm ha.grows
    ·have hd:¬eV (cb s n nx []).1≠0:=by simpa using d
     rw[if_neg hd]at hR;subst hR;have hf:=WP (n:=(cb s n nx []).2.1) (e:=0) ha;simp -implicitDefEqProofs [g1];have hf':ac false S S' (.tup [fr' 9,.int .i64 ((cb s n nx []).2.1:Int),.int .i64 0])=(.tup [bo (fr' 9) ((cb s n nx []).1.map bt),.int .i64 ((cb s n nx []).2.1:Int),.int .i64 0],S):=hf;rw[hf'];exact⟨rfl,_,rfl,WI ha⟩
   ·rw[if_pos hz]at hR;simp -implicitDefEqProofs [g4,g5,g6];exact fin_no S' _ hR.symm hg
def aDZ(a:Nat)(w:List UInt8):∀(n k acc:Nat),k≤8→n<128^(9-k)→(k=0∨n≠0)→dB a (aN n++w) k acc=(acc+n*128^k,a+k+(aN n).length,0):=by
 intro n
 induction n using Nat.strongRecOn with
 |_ n ih=>
  intro k acc hk hn h0;by_cases h:n<128
  ·have hu:aN n=[UInt8.ofNat n]:=by rw[aN,if_pos h]
   have hd:(UInt8.ofNat n).toNat=n:=by simp;omega
   rw[hu];simp only[jx,eE,dB,hd,bV,cT];rw[if_neg (by omega),if_pos h,sq h]
  ·have hu:aN n=UInt8.ofNat (n%128+128)::aN (n/128):=by rw[aN,if_neg h]
   have hd:(UInt8.ofNat (n%128+128)).toNat=n%128+128:=by simp;omega
   have hk7:k≤7:=by
    rcases kA k 8 with q|q
    ·omega
    ·have:k=8:=by omega
     subst this;simp at hn;omega
   have hn':n/128<128^(9-(k+1)):=by
    rw[qT (by decide),←GR,show(9-(k+1)).succ=9-k by omega];exact hn
   have hr:=ih (n/128) (by omega) (k+1) (acc+n%128*128^k) (by omega) hn' (.inr (by omega));rw[hu];simp only[jx,dB,hd,bV];rw[if_neg (by omega),if_neg (by omega),show(n%128+128)%128=n%128 by omega,hr]
   have e:acc+n%128*128^k+n/128*128^(k+1)=acc+n*128^k:=by
    rw[yx,sr (128^k) 128,←Nat.mul_assoc,iL,←dh]
    congr 2
    omega
   rw[e]
   congr 2
   omega
def kL{p w:List UInt8}{n:Nat}(h:n<9223372036854775808):bD (p++(aN n++w)) (p.length:Int)=(n,p.length+(aN n).length,0):=by
 unfold bD;rw[if_neg (by simp;omega)];have e:(p++(aN n++w)).drop ((p.length:Int).toNat)=aN n++w:=by simp
 rw[e,aDZ _ w n 0 0 (by omega) (by simpa using h) (.inl rfl)];simp
def WR{p w t:List UInt8}(h:t.length≤65535):fN (p++(dH t++w)) (p.length:Int)=(t,p.length+(dH t).length,0):=by
 have hu:=kL (p:=p) (w:=t++w) (n:=t.length) (by omega);have e:p++(dH t++w)=p++(aN t.length++(t++w)):=by simp[dH]
 have hl:(dH t).length=(aN t.length).length+t.length:=by simp[dH]
 unfold fN;rw[e,hu];simp only;rw[if_neg (by decide),if_neg (by omega),if_neg (by simp only[List.length_append];omega)];have e2:p++(aN t.length++(t++w))=(p++aN t.length)++(t++w):=by simp
 rw[e2,show p.length+(aN t.length).length=(p++aN t.length).length by simp,List.drop_left,List.take_left];simp only[List.length_append]
 congr 2
 omega
theorem WS{w:List UInt8}:∀(l:List bn) (p:List UInt8) (l0:List bn),(∀x∈l,x.1.length≤65535∧x.2.1.length≤65535)→cb (p++(l.flatMap eW++w)) l.length p.length l0=(l0++l,p.length+(l.flatMap eW).length,0)
 | [],p,l0,_=>by simp[cb]
 |(a,b,())::l,p,l0,h=>by
  have h1:=(h (a,b,()) (by simp)).1;have h2:=(h (a,b,()) (by simp)).2;simp only at h1 h2;have e1:p++(((a,b,())::l).flatMap eW++w)=p++(dH a++(dH b++(l.flatMap eW++w))):=by simp[eW]
  have e2:p++(dH a++(dH b++(l.flatMap eW++w)))=(p++dH a)++(dH b++(l.flatMap eW++w)):=by simp
  have e3:p++(dH a++(dH b++(l.flatMap eW++w)))=(p++dH a++dH b)++(l.flatMap eW++w):=by simp
  have g1:=WR (p:=p) (w:=dH b++(l.flatMap eW++w)) h1;have g2:=WR (p:=p++dH a) (w:=l.flatMap eW++w) h2;rw[←e2]at g2;have ih:=WS (w:=w) l (p++dH a++dH b) (l0++[(a,b,())]) (fun x hx=>h x (by simp[hx]));rw[←e3]at ih;rw[e1,bV,cb,g1];simp only;rw[if_neg (by decide)];rw[show p.length+(dH a).length=(p++dH a).length by simp,g2];simp only;rw[if_neg (by decide),show(p++dH a).length+(dH b).length=(p++dH a++dH b).length by simp;omega,ih];simp[eW];omega
def WT{p w:List UInt8}{l:List bn}(h:eV l=0):hU (p++(ew l++w)) (p.length:Int)=(l,(p++ew l).length,0):=by
 obtain⟨h1,h2,_⟩:=mY.1 h;have hu:=kL (p:=p) (w:=l.flatMap eW++w) (n:=l.length) (by omega);have e:p++(ew l++w)=p++(aN l.length++(l.flatMap eW++w)):=by simp[ew]
 have e2:p++(aN l.length++(l.flatMap eW++w))=(p++aN l.length)++(l.flatMap eW++w):=by simp
 have hr:=WS (w:=w) l (p++aN l.length) [] (fun x hx=>by obtain⟨a,b⟩:=rT (h2 x hx);exact⟨by omega,by omega⟩);rw[←e2,eE]at hr;unfold hU;rw[e,hu];simp only;rw[if_neg (by decide),if_neg (by omega),show p.length+(aN l.length).length=(p++aN l.length).length by simp,hr];simp only;rw[if_neg (by decide),if_neg (by rw[h];decide)];simp[ew];omega
end Ps
