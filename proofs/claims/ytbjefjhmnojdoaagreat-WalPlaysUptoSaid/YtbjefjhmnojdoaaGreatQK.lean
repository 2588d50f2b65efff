/- The document's log is opened, as the program's is. -/
import Derived.Test.YtbjefjhmnojdoaaGreatDefs
import Derived.Test.YtbjefjhmnojdoaaGreatQG
import Derived.Test.YtbjefjhmnojdoaaGreatWK
import Derived.Test.YtbjefjhmnojdoaaGreatDA
set_option linter.defProp false
namespace Ps
set_option linter.unusedSimpArgs false
set_option linter.unusedVariables false
open Go
def pm:T.fn 144=some (.code kc):=rfl
theorem EI{s:List UInt8}:∀(k i:Nat),i≤s.length→(cM s k i).2≤s.length
 |0,i,h=>h
 |k+1,i,h=>by
  simp only[cM];split
  ·exact h
  ·rename_i x n hg;split
   ·exact h
   ·exact EI k n (yT hg).2.1
theorem Wl{s:List UInt8}:∀(k i:Nat),i≤s.length→i+6*(cM s k i).1.length≤s.length
 |0,i,h=>by simp only[cM,cT];omega
 |k+1,i,h=>by
  simp only[cM];split
  ·simp only[cT];omega
  ·rename_i x n hg;split
   ·simp only[cT];omega
   ·have:=yT hg;have:=Wl k n this.2.1;simp only[bV];omega
abbrev cR(s:List UInt8):List bq×Nat:=cM s (s.length+1) 0
def aEG{S':St}{n0 lo o:Nat}{a b c:PV}{l:List PV}(ho:S'.objs[lo]?=some [.ptr o 0,a,b,c])(h1:o<n0)(h2:n0≤lo):bQ S'.objs n0 eM (.tup (.ptr lo 0::l))=none:=by
 have b1:bQ S'.objs n0 38 (.ptr o 0)=none:=by
  have:¬n0≤o:=by omega
  simp[bQ,PV.free,this]
 have b2:bQ S'.objs n0 39 (.ptr lo 0)=none:=by
  rw[bQ];simp only[PV.free,cF,if_false,h2,if_true,ho];simp[cr,b1]
 show bQ S'.objs n0 (39+1) (.tup (.ptr lo 0::l))=none;rw[bQ];simp only[PV.free,PV.freeL,qP,cF,if_false];simp only[cr,b2]
def aEH{S S':St}{lo o:Nat}{a b c:PV}{l:List PV}(ho:S'.objs[lo]?=some [.ptr o 0,a,b,c])(h1:o<S.objs.length)(h2:S.objs.length≤lo):ac false S S' (.tup (.ptr lo 0::l))=(.tup (.ptr lo 0::l),S'):=by
 unfold ac;simp only[cF,if_false,aEG ho h1 h2]
def bE(D:Dk)(n:Nm):List UInt8:=if df D n=0 then(match lk n D.live with|some f=>D.fb f|none=>[])else []
def zF{S:St}{o K:Nat}{D:Dk}(h:At S o K D)(n:Nm):bG 1 (iP D n) (aL (bE D n))∧(bE D n).length≤4194304:=by
 unfold iP bE;by_cases h0:df D n=0
 ·rw[if_pos h0,if_pos h0]
  cases hf:lk n D.live with
  |none=>exact⟨.inl ⟨rfl,rfl⟩,by simp⟩
  |some f=>
   have:=h.file f (h.inl _ (ic hf));have:=h.rm;exact⟨aBf (h.file f (h.inl _ (ic hf))).2.1,by simp only;omega⟩
 ·rw[if_neg h0,if_neg h0];exact⟨.inl ⟨rfl,rfl⟩,by simp⟩
def kj(name:Nm):List fO:=[⟨1,name,[]⟩,⟨6,[],[]⟩]
inductive ld(o:Nat)(name:Nm)(K:Nat)(D:Dk):Int→List bq→Nat→Dk→Prop where
 |tmp (h:name=bc):ld o name K D 8 [] 0 D
 |bad (h:name≠bc) (h0:df D name≠0) (h9:df D name≠9):ld o name K D (df D name) [] 0 D
 |newBad (h:name≠bc) (h9:df D name=9) (e:Int) (D1:Dk) (hr:gN o [] (kj name) K D e D1) (he:e≠0):ld o name K D e [] 0 D1
 |new (h:name≠bc) (h9:df D name=9) (D1:Dk) (hr:gN o [] (kj name) K D 0 D1):ld o name K D 0 [] 0 D1
 |old (h:name≠bc) (h0:df D name=0) (hn:(cR (bE D name)).2=(bE D name).length):ld o name K D 0 (cR (bE D name)).1 (cR (bE D name)).2 D
 |cutBad (h:name≠bc) (h0:df D name=0) (hn:(cR (bE D name)).2<(bE D name).length) (e:Int) (D1:Dk) (ha:ki o ((bE D name).take (cR (bE D name)).2) name K D e D1) (he:e≠0):ld o name K D e [] 0 D1
 |cut (h:name≠bc) (h0:df D name=0) (hn:(cR (bE D name)).2<(bE D name).length) (D1:Dk) (ha:ki o ((bE D name).take (cR (bE D name)).2) name K D 0 D1):ld o name K D 0 (cR (bE D name)).1 (cR (bE D name)).2 D1
structure iq(S:St)(lo o:Nat)(D:Dk)(name:Nm)(n size:Nat):Prop where
 obj:S.objs[lo]?=some [.ptr o 0,.str name,.int .i64 (n:Int),.int .i64 (size:Int)]
 ne:lo≠o
 own:¬iN D lo
def iq.fra{S S':St}{lo o:Nat}{D D':Dk}{name:Nm}{n size:Nat}(h:iq S lo o D name n size)(f:bj o S S' D D'):iq S' lo o D' name n size:=
 ⟨f.o.obj _ _ h.obj h.ne h.own,h.ne,f.o.own _ (aS.1 h.obj).1 h.ne h.own⟩
def aEI(S:St)(o:Nat)(name:Nm)(e:Int)(rs:List bq)(n:Nat)(D':Dk)(r:PV)(S':St):Prop:=
 (e≠0∧r=.tup [.nilp,.nils,.int .i64 e]) ∨
 (e=0∧∃lo v es,r=.tup [.ptr lo 0,v,.int .i64 0]∧S.objs.length≤lo∧iq S' lo o D' name rs.length n∧bG 6 v es∧dz es rs∧v.free=true∧v.frz=v)
def aEJ{o i0 i1:Nat}{name:Nm}(hn:name.length≤maxLen) :
  pj o [] [(i0,[.ptr o 0]),(i1,[.str name])] [.fn 248 [.ptr i0 0,.ptr i1 0],.bfn 79 [.ptr o 0]] (kj name):=by
 have g0:∀{S:St} {D:Dk},la o [(i0,[.ptr o 0]),(i1,[.str name])] S D→S.objs[i0]?=some [.ptr o 0]∧S.objs[i1]?=some [.str name]:=fun h=>
  ⟨(h (i0,[.ptr o 0]) (by simp)).1,(h (i1,[.str name]) (by simp)).1⟩
 refine .cons _ _ _ _ ?_ (.cons _ _ _ _ ?_ .nil)
 ·intro S K D h hK hc;obtain⟨c0,c1⟩:=g0 hc;obtain⟨r,S',D',q1,q2⟩:=WW h (by omega) hn [] [];exact⟨r,S',D',by simp only[qL,qN];exact aEk c0 c1 q1,q2⟩
 ·intro S K D h hK hc;obtain⟨r,S',D',q1,q2⟩:=WX h (by omega) [] [] [];exact⟨r,S',D',by simp only[AQ,qN];exact q1,q2⟩
set_option maxHeartbeats 4000000 in
def aEK{S:St}{o K:Nat}{D:Dk}(h:At S o K D)(hK:K≤900000){name:Nm}(hn:name.length≤maxLen) :
  ∃e rs n r S' D',aO T 144 [.ptr o 0,.str name] S=some (r,S')∧ld o name K D e rs n D'∧At S' o (K+12) D'∧bj o S S' D D'∧aEI S o name e rs n D' r S':=by
 have hlo:=h.lt.1;obtain⟨S1,hS1⟩:∃S1:St,S1=⟨S.objs++[[.ptr o 0],[.str name]],S.tips⟩:=⟨_,rfl⟩;have hA1:At S1 o K D:=by have:=h.grown [[.ptr o 0],[.str name]] [];rw[cI]at this;rw[hS1];exact this
 have hF1:bj o S S1 D D:=by have:=bj.grow (o:=o) (S:=S) (D:=D) [[.ptr o 0],[.str name]] [];rw[cI]at this;rw[hS1];exact this
 have x0:S1.objs[S.objs.length]?=some [.ptr o 0]:=by rw[hS1];simp
 have x1:S1.objs[S.objs.length+1]?=some [.str name]:=by rw[hS1];simp
 have hcaps:la o [(S.objs.length,[.ptr o 0]),(S.objs.length+1,[.str name])] S1 D:=by
  intro x hx;simp only[cX,kY,or_false]at hx;rcases hx with rfl|rfl
  ·exact⟨x0,h.fresh (aj _)⟩
  ·exact⟨x1,h.fresh (by omega)⟩
 have hS1':St.mk (S.objs++[[.ptr o 0],[.str name]]) S.tips=S1:=hS1.symm;have ht1:S1.tips=S.tips:=by rw[hS1]
 have e0:eg false .p (.ptr o 0)=some (.bool false):=rfl;have hrd:=Uc hA1 hn;obtain⟨hsl,hbl⟩:=zF h name;have hvl:=hsl.len;rw[bO]at hvl;obtain⟨hv1,hv2⟩:=aBh D name
 have finE:∀{e:Int} {S':St} {D':Dk} {K':Nat},At S' o K' D'→bj o S S' D D'→(ax D'=ax D→D'=D)→K≤K'→∃S'',ac false S S' (.tup [.nilp,.nils,.int .i64 e])=(.tup [.nilp,.nils,.int .i64 e],S'')∧At S'' o K' D'∧bj o S S'' D D':=fun q1 q2 q3 q4=>
  EA h q1 q2 q3 q4 rfl rfl
 have finL:∀{S2:St} {D2:Dk} {v:PV} {n size:Nat},At S2 o (K+12) D2→bj o S S2 D D2→S.objs.length≤S2.objs.length →
   ac false S ⟨S2.objs++[[.ptr o 0,.str name,.int .i64 (n:Int),.int .i64 (size:Int)]],S2.tips⟩ (.tup [.ptr S2.objs.length 0,v,.int .i64 0])=(.tup [.ptr S2.objs.length 0,v,.int .i64 0],⟨S2.objs++[[.ptr o 0,.str name,.int .i64 (n:Int),.int .i64 (size:Int)]],S2.tips⟩) ∧
   At ⟨S2.objs++[[.ptr o 0,.str name,.int .i64 (n:Int),.int .i64 (size:Int)]],S2.tips⟩ o (K+12) D2∧bj o S ⟨S2.objs++[[.ptr o 0,.str name,.int .i64 (n:Int),.int .i64 (size:Int)]],S2.tips⟩ D D2 ∧
   iq ⟨S2.objs++[[.ptr o 0,.str name,.int .i64 (n:Int),.int .i64 (size:Int)]],S2.tips⟩ S2.objs.length o D2 name n size:=by
  intro S2 D2 v n size q1 q2 q3;refine⟨aEH (a:=.str name) (b:=.int .i64 (n:Int)) (c:=.int .i64 (size:Int)) (by simp) hlo q3,?_,?_,⟨by simp,(q1.fresh (aj _)).1,(q1.fresh (aj _)).2⟩⟩
  ·have:=q1.grown [[.ptr o 0,.str name,.int .i64 (n:Int),.int .i64 (size:Int)]] [];rw[cI]at this;exact this
  ·have:=q2.trans (bj.grow (o:=o) (S:=S2) (D:=D2) [[.ptr o 0,.str name,.int .i64 (n:Int),.int .i64 (size:Int)]] []);rw[cI]at this;exact this
 by_cases hnm:name=bc
 ·obtain⟨S',f1,f2,f3⟩:=finE (e:=8) hA1 hF1 (fun _=>rfl) (aj _);refine⟨8,[],0,_,S',D,aW pm rfl ?_,.tmp hnm,f2.mono (by omega),f3,.inl ⟨by decide,rfl⟩⟩;subst hnm;simp only[bc]at hS1' x0 x1;simp -implicitDefEqProofs [kc,bc,aI,dg,hS1',aU x0,aU x1,q1,e0,f1]
 have hnb:(name==[116,109,112])=false:=by
  rw[beq_eq_false_iff_ne];exact hnm
 by_cases h9:df D name=9
 ·rw[h9]at hrd;have hrv:iP D name=.nils:=by unfold iP;rw[if_neg (by omega)]
  rw[hrv]at hrd;obtain⟨e,S2,D2,c1,c2,c3,c4⟩:=EH (aEJ (o:=o) (i0:=S.objs.length) (i1:=S.objs.length+1) hn) (fun f hf=>by simp at hf;rcases hf with rfl|rfl<;>rfl) (by simp) hA1 (by simp[kj];omega) hcaps;simp only[bV,cT,dN]at c1;rw[ht1]at c1;have c2:At S2 o (K+4) D2:=c2;obtain⟨y0,y1⟩:S2.objs[S.objs.length]?=some [.ptr o 0]∧S2.objs[S.objs.length+1]?=some [.str name]:=⟨(hcaps.fra c3 (_,_) (by simp)).1,(hcaps.fra c3 (_,_) (by simp)).1⟩;by_cases he:e=0
  ·subst he;obtain⟨v,es,w1,w2,w3,w4,w5⟩:=VC (s:=[]) (bv:=.nils) (.inl ⟨rfl,rfl⟩) (by simp) S2;have w1:aO T 249 [.nils] S2=some (.tup [v,.int .i64 0],S2):=w1;have w3:dz es []:=w3;have hes:es=[]:=by cases es with|nil=>rfl|cons=>cases w3
   subst hes;have wl:=w2.len;have hge:S.objs.length≤S2.objs.length:=by have:=(aS.1 y0).1;omega
   obtain⟨f1,f2,f3,f4⟩:=finL (v:=v) (n:=0) (size:=0) (c2.mono (by omega)) (hF1.trans c3) hge;refine⟨0,[],0,_,_,D2,aW pm rfl ?_,.new hnm h9 D2 c4,f2,f3,.inr ⟨rfl,_,v,[],rfl,hge,f4,w2,w3,w4,w5⟩⟩;have hl0:cz false PV.nils=some (.int .i64 0):=rfl;simp only[cT]at wl;simp -implicitDefEqProofs [kc,aQ,aI,dg,hS1',aU x0,aU x1,q1,e0,hnb,hrd,bL,bR,bp,ht1,c1,w1,hl0,aU y0,aU y1,wl,bK,aR,f1];exact f1
  ·have heb:(e != 0)=true:=by simpa using he
   obtain⟨S',f1,f2,f3⟩:=finE (e:=e) (c2.mono (show K+4≤K+12 by omega)) (hF1.trans c3) (rX c4).2 (by omega);refine⟨e,[],0,_,S',D2,aW pm rfl ?_,.newBad hnm h9 e D2 c4 he,f2,f3,.inl ⟨he,rfl⟩⟩;simp -implicitDefEqProofs [kc,aQ,aI,dg,hS1',aU x0,aU x1,q1,e0,hnb,hrd,bL,bR,bp,ht1,c1,heb,f1]
 have h9b:(df D name==9)=false:=by rw[beq_eq_false_iff_ne];exact h9
 by_cases h0:df D name=0
 rotate_left
 ·have h0b:(df D name != 0)=true:=by simpa using h0
  obtain⟨S',f1,f2,f3⟩:=finE (e:=df D name) hA1 hF1 (fun _=>rfl) (aj _);refine⟨_,[],0,_,S',D,aW pm rfl ?_,.bad hnm h0 h9,f2.mono (by omega),f3,.inl ⟨h0,rfl⟩⟩;generalize df D name=re at *;simp -implicitDefEqProofs [kc,aQ,aI,dg,hS1',aU x0,aU x1,q1,e0,hnb,hrd,h9b,h0b,f1]
 rw[h0]at hrd;obtain⟨v,es,w1,w2,w3,w4,w5⟩:=VC hsl (by omega) S1;have wl:=w2.len;have hcnt:=w3.len;have hwle:=EI (s:=bE D name) ((bE D name).length+1) 0 (Nat.zero_le _);have hR:∀rs n,rs=(cR (bE D name)).1→n=(cR (bE D name)).2→True:=fun _ _ _ _=>trivial;by_cases hlt:(cR (bE D name)).2<(bE D name).length
 ·obtain⟨bv,s1,s2⟩:=hsl.hiW (hi:=(cR (bE D name)).2) (j:=.i64) (by rw[bO];exact hwle);rw[rM]at s2
  have s3:bv.cells=[bv]∧bv.one=true:=by
   rcases s2 with⟨rfl,_⟩|⟨t,sp,rfl,_⟩<;>exact⟨rfl,rfl⟩
  obtain⟨e,S2,D2,c1,c2,c3,c4⟩:=aEF hA1 (by omega) hn s2 s3.1 s3.2;obtain⟨y0,y1⟩:S2.objs[S.objs.length]?=some [.ptr o 0]∧S2.objs[S.objs.length+1]?=some [.str name]:=⟨(hcaps.fra c3 (_,_) (by simp)).1,(hcaps.fra c3 (_,_) (by simp)).1⟩;have hlt':((cR (bE D name)).2:Int)<((bE D name).length:Int):=by omega
  by_cases he:e=0
  ·subst he;have hge:S.objs.length≤S2.objs.length:=by have:=(aS.1 y0).1;omega
   obtain⟨f1,f2,f3,f4⟩:=finL (v:=v) (n:=(cR (bE D name)).1.length) (size:=(cR (bE D name)).2) c2 (hF1.trans c3) hge;refine⟨0,_,_,_,_,D2,aW pm rfl ?_,.cut hnm h0 hlt D2 c4,f2,f3,.inr ⟨rfl,_,v,es,rfl,hge,f4,w2,w3,w4,w5⟩⟩;rw[hcnt]at wl;generalize (cR (bE D name)).1.length=wn at *;generalize (cM (bE D name) ((bE D name).length+1) 0).2=ws at *;simp -implicitDefEqProofs [kc,aQ,aI,dg,hS1',aU x0,aU x1,q1,e0,hnb,hrd,w1,hvl,hlt',s1,c1,aU y0,aU y1,wl,bK,aR];exact f1
  ·have heb:(e != 0)=true:=by simpa using he
   obtain⟨S',f1,f2,f3⟩:=finE (e:=e) c2 (hF1.trans c3) (Wk c4).2 (by omega);refine⟨e,[],0,_,S',D2,aW pm rfl ?_,.cutBad hnm h0 hlt e D2 c4 he,f2,f3,.inl ⟨he,rfl⟩⟩;generalize (cM (bE D name) ((bE D name).length+1) 0).2=ws at *;simp -implicitDefEqProofs [kc,aQ,aI,dg,hS1',aU x0,aU x1,q1,e0,hnb,hrd,w1,hvl,hlt',s1,c1,heb,f1]
 ·have hnl:¬((cR (bE D name)).2:Int)<((bE D name).length:Int):=by omega
  have hge:S.objs.length≤S1.objs.length:=by rw[hS1];simp
  obtain⟨f1,f2,f3,f4⟩:=finL (v:=v) (n:=(cR (bE D name)).1.length) (size:=(cR (bE D name)).2) (hA1.mono (by omega)) hF1 hge;refine⟨0,_,_,_,_,D,aW pm rfl ?_,.old hnm h0 (Nat.le_antisymm hwle (Nat.not_lt.1 hlt)),f2,f3,.inr ⟨rfl,_,v,es,rfl,hge,f4,w2,w3,w4,w5⟩⟩;rw[hcnt]at wl;generalize (cR (bE D name)).1.length=wn at *;generalize (cM (bE D name) ((bE D name).length+1) 0).2=ws at *;simp -implicitDefEqProofs [kc,aQ,aI,dg,hS1',aU x0,aU x1,q1,e0,hnb,hrd,w1,hvl,hnl,wl,bK,aR];exact f1
end Ps
set_option linter.defProp false
namespace Ps
set_option linter.unusedSimpArgs false
set_option linter.unusedVariables false
open Go
def aEL{b0 b1:UInt8}{t:List UInt8}{n:Nat}(hn:n=b0.toNat*256+b1.toNat)(hl:n+4≤t.length) :
  eo (((b0::b1::t).take (2+n)).drop 2)=(b0::b1::t).take (6+n)↔iG ((b0::b1::t).take (2+n))=((b0::b1::t).take (6+n)).drop (2+n):=by
 have l0:=b0.toNat_lt;have l1:=b1.toNat_lt;have e1:((b0::b1::t).take (2+n)).drop 2=t.take n:=by rw[show 2+n=n+2 by omega];rfl
 have e2:(b0::b1::t).take (2+n)=b0::b1::t.take n:=by rw[show 2+n=n+2 by omega];rfl
 have e3:(b0::b1::t).take (6+n)=b0::b1::t.take (n+4):=by rw[show 6+n=n+4+2 by omega];rfl
 have e4:((b0::b1::t).take (6+n)).drop (2+n)=(t.take (n+4)).drop n:=by rw[e3,show 2+n=n+2 by omega];rfl
 have e5:t.take (n+4)=t.take n++(t.take (n+4)).drop n:=by
  have:=sk n (t.take (n+4));rw[GO,show min n (n+4)=n by omega]at this;exact this.symm
 have hh:fp (t.take n).length=[b0,b1]:=by
  rw[List.length_take,show min n t.length=n by omega,Wi,hn];have h1:(b0.toNat*256+b1.toNat)/256%256=b0.toNat:=by omega
  have h2:(b0.toNat*256+b1.toNat)%256=b1.toNat:=by omega
  rw[h1,h2];simp
 have ef:eo (t.take n)=(b0::b1::t.take n)++iG (b0::b1::t.take n):=by unfold eo;rw[hh];rfl
 rw[e1,ef,e2,e4,e3];constructor
 ·intro h;rw[e5]at h;have:(b0::b1::t.take n)++iG (b0::b1::t.take n)=(b0::b1::t.take n)++(t.take (n+4)).drop n:=by rw[h];rfl
  exact List.append_cancel_left this
 ·intro h;rw[h];show b0::b1::(t.take n++(t.take (n+4)).drop n)=b0::b1::t.take (n+4);rw[←e5]
def aEM{s:List UInt8}{bv:PV}(hv:bG 1 bv (aL s))(hs:s.length≤5000000){i:Nat}(hi:i≤s.length)(S:St):∃r,aO T 324 [bv,.int .i64 (i:Int)] S=some (r,S)∧yR (gX s i) r:=by
 have hlen:=hv.len;rw[bO]at hlen;have hi1:¬(i:Int)<0:=by omega
 have hi2:¬(s.length:Int)<(i:Int):=by omega
 obtain⟨r,hr⟩:∃r,r=s.drop i:=⟨_,rfl⟩;have hrl:r.length=s.length-i:=by rw[hr,kX]
 have w0:IntKind.i64.wrap ((s.length:Int)-(i:Int))=(s.length:Int)-(i:Int):=bJ (by omega) (by omega)
 have fno:∀(S1:St) (e:Int),aP S S1→ac false S S1 (.tup [.nils,.int .i64 0,.int .i64 e])=(.tup [.nils,.int .i64 0,.int .i64 e],S):=fun S1 e hg=>by
  have:=cN (r:=.tup [.nils,.int .i64 0,.int .i64 e]) hg rfl;rw[this];rfl
 have bad:∀e:Int,(e==0)=false→gX s i=none→yR (gX s i) (.tup [.nils,.int .i64 0,.int .i64 e]):=fun e he hn=>by rw[hn];exact⟨e,he,rfl⟩
 by_cases h6:r.length<6
 ·have h6':(s.length:Int)-(i:Int)<6:=by omega
  have hn:gX s i=none:=by
   unfold gX;rw[←hr]
   match r,h6 with
   | [],_=>rfl
   | [_],_=>rfl
   |b0::b1::t,h6=>
    simp only[bV]at h6;simp only;rw[if_pos (.inl (by omega))]
  refine⟨_,aW zC rfl ?_,bad 4 rfl hn⟩;simp -implicitDefEqProofs [nR,hlen,hi1,hi2,w0,h6',fno S 4 (aP.refl S)]
 have h6':¬(s.length:Int)-(i:Int)<6:=by omega
 obtain⟨b0,b1,t,ht⟩:∃b0 b1 t,r=b0::b1::t:=by
  match r,h6 with
  | [],h6=>simp at h6
  | [_],h6=>simp at h6
  |b0::b1::t,_=>exact⟨_,_,_,rfl⟩
 have htl:t.length+2=r.length:=by rw[ht];simp
 have hs0:s[i]?=some b0:=by
  have:(s.drop i)[0]?=some b0:=by rw[←hr,ht];rfl
  rwa [iw,gB]at this
 have hs1:s[i+1]?=some b1:=by
  have:(s.drop i)[1]?=some b1:=by rw[←hr,ht];rfl
  rwa [iw]at this
 have g0:=hv.reads.get i (by rw[bO];omega) .i64;have g1:=hv.reads.get (i+1) (by rw[bO];omega) .i64
 have hx0:(aL s)[i]'(by rw[bO];omega)=.int .u8 b0.toNat:=by
  have:=(aS.1 hs0).2;simp[aL,this]
 have hx1:(aL s)[i+1]'(by rw[bO];omega)=.int .u8 b1.toNat:=by
  have:=(aS.1 hs1).2;simp[aL,this]
 rw[hx0,oc]at g0;rw[hx1,oc]at g1;have l0:=b0.toNat_lt;have l1:=b1.toNat_lt;have wi:IntKind.i64.wrap ((i:Int)+1)=((i+1:Nat):Int):=by rw[bJ (by omega) (by omega)];omega
 have w1:IntKind.i64.wrap (b0.toNat:Int)=(b0.toNat:Int):=bJ (by omega) (by omega);have w2:IntKind.i64.wrap (b1.toNat:Int)=(b1.toNat:Int):=bJ (by omega) (by omega);have w3:IntKind.i64.wrap ((b0.toNat:Int)*256)=(b0.toNat:Int)*256:=bJ (by omega) (by omega);obtain⟨n,hnn⟩:∃n:Nat,n=b0.toNat*256+b1.toNat:=⟨_,rfl⟩;have w4:IntKind.i64.wrap ((b0.toNat:Int)*256+(b1.toNat:Int))=(n:Int):=by rw[bJ (by omega) (by omega)];omega
 have w5:IntKind.i64.wrap ((s.length:Int)-(i:Int)-6)=(s.length:Int)-(i:Int)-6:=bJ (by omega) (by omega)
 have hget:gX s i=if r.length-6<n then none else if iG (r.take (2+n))=(r.take (6+n)).drop (2+n)then some ((r.take (2+n)).drop 2,i+6+n)else none:=by
  unfold gX;rw[←hr,ht];simp only[←hnn,bV];have q1:(t.length<4∨t.length-4<n)↔(t.length+1+1-6<n):=by omega
  by_cases hc:t.length+1+1-6<n
  ·rw[if_pos (q1.2 hc),if_pos hc]
  ·rw[if_neg (fun h=>hc (q1.1 h)),if_neg hc]
 by_cases hlt:r.length-6<n
 ·have hlt':(s.length:Int)-(i:Int)-6<(n:Int):=by omega
  refine⟨_,aW zC rfl ?_,bad 4 rfl (by rw[hget,if_pos hlt])⟩
  push_cast at wi g1
  simp -implicitDefEqProofs [nR,hlen,hi1,hi2,w0,h6',g0,wi,g1,q1,w1,w2,w3,w4,w5,hlt',fno S 4 (aP.refl S)]
 have hlt':¬(s.length:Int)-(i:Int)-6<(n:Int):=by omega
 have w6:IntKind.i64.wrap ((i:Int)+2)=((i+2:Nat):Int):=by rw[bJ (by omega) (by omega)];omega
 have w7:IntKind.i64.wrap (((i+2:Nat):Int)+(n:Int))=((i+2+n:Nat):Int):=by rw[bJ (by omega) (by omega)];omega
 have w8:IntKind.i64.wrap ((i:Int)+6)=((i+6:Nat):Int):=by rw[bJ (by omega) (by omega)];omega
 have w9:IntKind.i64.wrap (((i+6:Nat):Int)+(n:Int))=((i+6+n:Nat):Int):=by rw[bJ (by omega) (by omega)];omega
 obtain⟨va,a1,a2⟩:=hv.lh (lo:=i+2) (hi:=i+2+n) (k:=.i64) (j:=.i64) (by omega) (by rw[bO];omega);obtain⟨vb,b1',b2⟩:=hv.lh (lo:=i) (hi:=i+6+n) (k:=.i64) (j:=.i64) (by omega) (by rw[bO];omega);rw[rM,DC]at a2 b2
 have ea:(s.take (i+2+n)).drop (i+2)=(r.take (2+n)).drop 2:=by
  rw[hr,List.take_drop,List.drop_drop,show i+(2+n)=i+2+n by omega]
 have eb:(s.take (i+6+n)).drop i=r.take (6+n):=by
  rw[hr,List.take_drop,show i+(6+n)=i+6+n by omega]
 rw[ea]at a2;rw[eb]at b2;have hxl:((r.take (2+n)).drop 2).length=n:=by rw[kX,List.length_take];omega
 have a0:=pe (S0:=S) (S:=S) 1 [] (aP.refl S);obtain⟨v1,S1,c1,c2,c3⟩:=a0.app (bytes:=1) (aL ((r.take (2+n)).drop 2)) (by rw[bO,hxl];simp;omega);rw[eE]at c2;have c4:=c2.isSl (gn _);obtain⟨fv,f1,f2⟩:=Wj c4 (by rw[hxl];omega) S1;have st1:=mZ f2.isl;have st2:=mZ b2;have hiff:=aEL (t:=t) hnn (by omega);rw[←ht]at hiff;have hap:=fun S=>a2.appdS (S:=S);simp only[cT]at c1;by_cases he:iG (r.take (2+n))=(r.take (6+n)).drop (2+n)
 ·have he2:=hiff.2 he;have heb:(eo ((r.take (2+n)).drop 2)==r.take (6+n))=true:=by rw[he2];simp
  have hb:=jK c2
  have hfin:ac false S S1 (.tup [v1,.int .i64 ((i+6+n:Nat):Int),.int .i64 0])=(.tup [bo v1 (aL ((r.take (2+n)).drop 2)),.int .i64 ((i+6+n:Nat):Int),.int .i64 0],S):=by
   have hfree:v1.free=true:=by
    rcases c2.acc with⟨h,_⟩|⟨id,_,h,_⟩
    ·rw[h];rfl
    ·rw[h];simp[PV.free,kf,PV.freeL]
   have hfr:v1.frz=bo v1 (aL ((r.take (2+n)).drop 2)):=by
    rcases c2.acc with⟨h,_⟩|⟨id,_,h,_⟩
    ·rw[h];rfl
    ·rw[h];simp[PV.frz,bo,kg,PV.frzL]
   rw[cN c2.grows (by simp[PV.free,PV.freeL,hfree])];simp[PV.frz,PV.frzL,hfr]
  refine⟨_,aW zC rfl ?_,by rw[hget,if_neg hlt,if_pos he];exact⟨_,rfl,hb⟩⟩
  push_cast at wi g1 w6 w7 w8 w9 a1 b1' hfin
  simp -implicitDefEqProofs [nR,hlen,hi1,hi2,w0,h6',g0,wi,g1,q1,w1,w2,w3,w4,w5,hlt',w6,w7,w8,w9,a1,b1',aI,bL,bR,bp,hap,c1,f1,st1,st2,heb,hfin];omega
 ·have heb:(eo ((r.take (2+n)).drop 2)==r.take (6+n))=false:=by
   rw[beq_eq_false_iff_ne];exact fun h=>he (hiff.1 h)
  refine⟨_,aW zC rfl ?_,bad 5 rfl (by rw[hget,if_neg hlt,if_neg he])⟩
  push_cast at wi g1 w6 w7 w8 w9 a1 b1'
  simp -implicitDefEqProofs [nR,hlen,hi1,hi2,w0,h6',g0,wi,g1,q1,w1,w2,w3,w4,w5,hlt',w6,w7,w8,w9,a1,b1',aI,bL,bR,bp,hap,c1,f1,st1,st2,heb,fno S1 5 c2.grows]
end Ps
set_option linter.defProp false
namespace Ps
set_option linter.unusedSimpArgs false
set_option linter.unusedVariables false
open Go
def aEN{s:List UInt8}{v:PV}(hv:bG 1 v (aL s))(hs:s.length≤67108864)(S:St) :
  (∃r cs,kG s=some r∧yS r cs∧aO T 325 [v] S=some (.tup [.agg cs,.int .i64 0],S))∨(kG s=none∧aO T 325 [v] S=some (.tup [.agg bu,.int .i64 5],S)):=by
 obtain⟨x,h1,h2⟩:=aMl hv hs S;rcases h2 with⟨r,cs,q1,q2,q3,q4,q5,rfl⟩|⟨q1,rfl⟩
 ·left;refine⟨r,cs,by rw[←q2];exact aBE q1,⟨q3,q4,q5⟩,h1⟩
 ·right;refine⟨?_,h1⟩
  cases h:kG s with
  |none=>rfl
  |some r=>exact absurd (DE h).2 (q1 r (DE h).1)
def aEO{s:List UInt8}{bv:PV}(hv:bG 1 bv (aL s))(hs:s.length≤5000000){S0:St}{K:List Kt}{Q:Fr→St→Prop}:∀(k i:Nat),s.length<k+i→i≤s.length→∀(rs:List bq) (es:List PV) (fr:Fr) (S:St),
  es.length+k≤20000000→bB S0 6 S (fr 4) es→dz es rs→fr 0=bv→fr 5=.int .i64 (i:Int) →
  (∀fr' S' es',bB S0 6 S' (fr' 2) es'→dz es' (rs++(cM s k i).1)→fr' 3=.int .i64 ((cM s k i).2:Int)→Q fr' S') →
  Ok (aJ T (.lp xu::.blk 0::K) fr S) Q:=by
 intro k
 induction k with
 |zero=>intro i h1 h2;omega
 |succ k ih=>
  intro i h1 h2 rs es fr S hk ha hr h0 h5 cont;obtain⟨x,g1,g2⟩:=aEM hv hs h2 S
  cases hg:gX s i with
  |none=>
   rw[hg]at g2;obtain⟨e,he,rfl⟩:=g2;have hw:cM s (k+1) i=([],i):=by simp[cM,hg]
   rw[hw]at cont;have he':(e != 0)=true:=by simpa using he
   have hR:∀fr',fr' 2=fr 4→fr' 3=.int .i64 (i:Int)→Q fr' S:=fun fr' q2 q3=>cont fr' S es (by rw[q2];exact ha) (by simpa using hr) q3;clear cont ih;rw[af];simp -implicitDefEqProofs [h0,h5,g1,he']
   exact hR _ (by simp) (by simp[h5])
  |some p=>
   obtain⟨y,n⟩:=p;rw[hg]at g2;obtain⟨yv,rfl,hy⟩:=g2;obtain⟨n1,n2,n3⟩:=yT hg;rcases aEN hy.isl (by omega) S with⟨r,cs,o1,o2,o3⟩|⟨o1,o3⟩
   ·have hw:cM s (k+1) i=(r::(cM s k n).1,(cM s k n).2):=by simp[cM,hg,o1]
    rw[hw]at cont;obtain⟨c6,c1⟩:=mA o2.c;have c1':(∀x,x∈cs→x.one=true)=True:=eq_true (by simpa using c1);have hsz:gG 6 [PV.agg cs]=true:=by simp[gG,c6]
    obtain⟨v',S',a1,a2,a3⟩:=((ha.objs [cs]).arrs [(1,6)]).app (bytes:=96) [PV.agg cs] (by simp;omega);have hp:=eS c6;have hz:aR [PV.int .i64 0,.nils,.nils,.nils,.int .i64 0,.int .i64 0] 0 cs=cs:=AJ (by simp[c6])
    have hL:∀fr',fr' 0=bv→fr' 4=v'→fr' 5=.int .i64 (n:Int)→Ok (aJ T (.lp xu::.blk 0::K) fr' S') Q:=by
     intro fr' q0 q4 q5;refine ih n (by omega) n2 (rs++[r]) (es++[.agg cs]) fr' S' (by simp;omega) (by rw[q4];exact a2) (hr.snoc o2) q0 q5 (fun fr2 S2 es2 w1 w2 w3=>cont fr2 S2 es2 w1 (by simpa using w2) w3)
    clear cont ih;rw[af];simp -implicitDefEqProofs [h0,h5,g1,o3,aI,dg,c6,c1,c1',hz,hp,uo,bL,bR,bp,gI,hsz,a1];exact hL _ (by simp[h0]) (by simp) (by simp)
   ·have hw:cM s (k+1) i=([],i):=by simp[cM,hg,o1]
    rw[hw]at cont;have hR:∀fr',fr' 2=fr 4→fr' 3=.int .i64 (i:Int)→Q fr' ⟨S.objs++[bu],S.tips⟩:=fun fr' q2 q3=>cont fr' _ es (by rw[q2];exact ha.objs [bu]) (by simpa using hr) q3;have hz:aR [PV.int .i64 0,.nils,.nils,.nils,.int .i64 0,.int .i64 0] 0 bu=bu:=rfl;have c6:bu.length=6:=rfl;have c1:bu.all PV.one=true:=rfl;clear cont ih;rw[af];simp -implicitDefEqProofs [h0,h5,g1,o3,aI,dg,c6,c1,hz];exact hR _ (by simp) (by simp[h5])
def zG{s:List UInt8}{bv:PV}(hv:bG 1 bv (aL s))(hs:s.length≤5000000)(S:St) :
  ∃v es,aO T 252 [bv] S=some (.tup [v,.int .i64 ((cM s (s.length+1) 0).2:Int)],S)∧bG 6 v es∧dz es (cM s (s.length+1) 0).1∧v.free=true∧v.frz=v:=by
 have key:=eB (T:=T) (f:=252) (c:=rB) aEz (args:=[bv]) (S:=S) rfl
  (R:=fun r S2=>S2=S∧∃v es,r=.tup [v,.int .i64 ((cM s (s.length+1) 0).2:Int)]∧bG 6 v es∧dz es (cM s (s.length+1) 0).1∧v.free=true∧v.frz=v) ?_
 ·obtain⟨r,S2,h1,rfl,v,es,rfl,h2⟩:=key;exact⟨v,es,h1,h2⟩
 simp -implicitDefEqProofs [rB];refine aEO hv hs (S0:=S) (s.length+1) 0 (by omega) (by omega) [] [] _ S (by simp;omega) (by simpa using ip 6 (aP.refl S)) trivial (by simp) (by simp) (fun fr' S' es' q1 q2 q3=>?_);rw[eE]at q2
 have hfree:(fr' 2).free=true:=by
  rcases q1.acc with⟨h,_⟩|⟨id,_,h,_⟩
  ·rw[h];rfl
  ·rw[h];simp[PV.free,q2.free,PV.freeL]
 have hfr:(fr' 2).frz=bo (fr' 2) es':=by
  rcases q1.acc with⟨h,_⟩|⟨id,_,h,_⟩
  ·rw[h];rfl
  ·rw[h];simp[PV.frz,bo,q2.frz,PV.frzL]
 have hfin:ac false S S' (.tup [fr' 2,.int .i64 ((cM s (s.length+1) 0).2:Int)])=(.tup [bo (fr' 2) es',.int .i64 ((cM s (s.length+1) 0).2:Int)],S):=by
  rw[cN q1.grows (by simp[PV.free,PV.freeL,hfree])];simp[PV.frz,PV.frzL,hfr]
 simp -implicitDefEqProofs [q3,hfin,-PV.free,-PV.frz];refine⟨es',lZ q1 q2.cells,q2,?_,?_⟩
 ·rcases q1.acc with⟨h,_⟩|⟨id,_,h,_⟩
  ·rw[h];rfl
  ·rw[h];simp[bo,PV.free,q2.free,PV.freeL]
 ·rcases q1.acc with⟨h,_⟩|⟨id,_,h,_⟩
  ·rw[h];rfl
  ·rw[h];simp[bo,PV.frz,q2.frz,PV.frzL]
end Ps
set_option linter.defProp false
namespace Ps
set_option linter.unusedSimpArgs false
set_option linter.unusedVariables false
open Go
def lj:T.fn 145=some (.code jB):=rfl
def lm{S S1 S2:St}{r v w x y:PV}{fr:Fr}{raw ag ag2:Bool}{t n t2 n2 u z:Nat}(h:cS S1 ag n (fr t)=some v)(h2:cS S1 ag2 n2 (fr t2)=some w)(hu:fr u=x)(hz:fr z=y)(k:ac raw S S1 (.tup [v,w,x,y])=(r,S2)):gM [.cell t ag n,.cell t2 ag2 n2,.tmp u,.tmp z] raw S r S2 fr S1:=
 ⟨[v,w,x,y],by subst hu;subst hz;rw[←yU]at h h2;simp only[eN,h,h2];rfl,k⟩
def jM(e:Int)(name:Nm)(rs:List bq)(n:Nat):List PV:=if e=0 then [.str name,.int .i64 (rs.length:Int),.int .i64 (n:Int)]else [.str [],.int .i64 0,.int .i64 0]
def lq{R:RD}{K:Nat}(h:R.Wf K){S S':St}(hg:aP S S')(nm:Nm)(a b e:Int){v:PV}(hf:v.free=true)(hz:v.frz=v) :
  ac false S S' (.tup [R.v,.agg [.str nm,.int .i64 a,.int .i64 b],v,.int .i64 e])=(.tup [R.v,.agg [.str nm,.int .i64 a,.int .i64 b],v,.int .i64 e],S):=by
 rw[cN hg (by simp[PV.free,PV.freeL,h.free,hf])];simp[PV.frz,PV.frzL,h.frz,hz]
def Wm{S:St}{o K:Nat}{D:Dk}{R:RD}(h:At S o K D)(hr:cQ D R)(hd:D.dark=false):(0≤bC bc (aZ R))↔bc∈gU D:=by
 obtain⟨a1,_⟩:=yg h hr bc;have h1:gU D=ii D.live:=by unfold gU;rw[hd];rfl
 have h2:bc∈ii D.live↔bc∈D.live.map (·.1):=(List.mergeSort_perm _ _).mem_iff
 have h3:cP D bc=0↔∃f,lk bc D.live=some f:=by
  unfold cP;rw[WY]
  cases hl:lk bc D.live with
  |none=>simp
  |some f=>simp
 have h4:(∃f,lk bc D.live=some f)↔bc∈D.live.map (·.1):=by
  constructor
  ·rintro⟨f,hf⟩;exact cD.2 ⟨_,ic hf,rfl⟩
  ·intro hm
   cases hl:lk bc D.live with
   |some f=>exact⟨f,rfl⟩
   |none=>
    exfalso;obtain⟨p,hp,hpn⟩:=cD.1 hm;exact DV hl p hp hpn
 rw[h1,h2,←h4,←h3,a1];exact⟨fun h=>⟨WY,h⟩,fun h=>h.2⟩
def dj(o:List (List PV))(a b c x:List PV):(o++[a,b,c]).set o.length x=o++[x,b,c]:=by simp
def dk(o:List (List PV))(a b c x:List PV):(o++[a,b,c]).set (o.length+1) x=o++[a,x,c]:=by simp
def dl(o:List (List PV))(a b c x:List PV):(o++[a,b,c]).set (o.length+2) x=o++[a,b,x]:=by simp
def dm(o:List (List PV))(a b c:List PV):(o++[a,b,c])[o.length]?=some a:=by simp
def dp(o:List (List PV))(a b c:List PV):(o++[a,b,c])[o.length+1]?=some b:=by simp
def dq(o:List (List PV))(a b c:List PV):(o++[a,b,c])[o.length+2]?=some c:=by simp
def dr(o:List (List PV))(t:List (Nat×Nat))(a b c:List PV)(ag:Bool)(n:Nat):cS ⟨o++[a,b,c],t⟩ ag n (.ptr o.length 0)=ae ag n a:=by rw[aU (by simp:(o++[a,b,c])[o.length]?=some a)];rfl
def cw(o:List (List PV))(t:List (Nat×Nat))(a b c:List PV)(ag:Bool)(n:Nat):cS ⟨o++[a,b,c],t⟩ ag n (.ptr (o.length+1) 0)=ae ag n b:=by rw[aU (by simp:(o++[a,b,c])[o.length+1]?=some b)];rfl
def cx(o:List (List PV))(t:List (Nat×Nat))(a b c:List PV)(ag:Bool)(n:Nat):cS ⟨o++[a,b,c],t⟩ ag n (.ptr (o.length+2) 0)=ae ag n c:=by rw[aU (by simp:(o++[a,b,c])[o.length+2]?=some c)];rfl
def Wn{S:St}{o K:Nat}{D:Dk}{R:RD}(h:At S o K D)(hr:cQ D R)(n:Nm):gY R n=df D n∧uT R n=bE D n:=by
 obtain⟨q1,q2⟩:=aCj h hr n;have q1:gY R n=df D n:=q1;refine⟨q1,?_⟩;rw[q2,q1];rfl
def EJ{cs:List fO}{v:PV}(h:v=.sl none (cs.map kM) []∨∃k,v=.sl (some (k,cs.length)) (cs.map kM) []):bT 4 v (cs.map kM):=by
 have h4:∀e∈cs.map kM,e.cells.length=4:=by
  intro e he;obtain⟨c,_,rfl⟩:=cD.1 he;rfl
 rcases h with rfl|⟨k,rfl⟩<;>exact oG h4
structure aEP(S0:St)(D':Dk)(K':Nat)(e:Int)(name:Nm)(rs:List bq)(n:Nat)(r:PV)(S':St):Prop where
 st:S'=S0
 to:∃R' v es,r=.tup [R'.v,.agg (jM e name rs n),v,.int .i64 e]∧cQ D' R'∧R'.Wf K'∧bG 6 v es∧dz es rs∧v.free=true∧v.frz=v
end Ps
