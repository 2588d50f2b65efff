/- Records in the memory: the same, own; as they come in. -/
import Derived.Test.YtbjefjhmnojdoaaGreatDefs
import Derived.Test.YtbjefjhmnojdoaaGreatQK
import Derived.Test.YtbjefjhmnojdoaaGreatTie
import Derived.Test.YtbjefjhmnojdoaaGreatWK
import Derived.Test.YtbjefjhmnojdoaaGreatRow
set_option linter.defProp false
namespace Ps
set_option linter.unusedSimpArgs false
set_option linter.unusedVariables false
open Go
def aEQ{name:Nm}(hn:name.length≤maxLen):∀c∈kj name,c.Wf:=by
 intro c hc;simp only[kj,cX,kY,or_false]at hc;rcases hc with rfl|rfl
 ·exact⟨⟨by simp,by simp⟩,hn,Nat.zero_le _⟩
 ·exact⟨by decide,Nat.zero_le _,Nat.zero_le _⟩
def aER{name:Nm}(hn:name.length≤maxLen):∀c∈kN name,c.Wf:=by
 intro c hc;simp only[kN,cX,kY,or_false]at hc;rcases hc with rfl|rfl|rfl|rfl|rfl
 ·exact⟨by decide,lc,Nat.zero_le _⟩
 ·exact⟨by decide,lc,Nat.zero_le _⟩
 ·exact⟨by decide,lc,Nat.zero_le _⟩
 ·exact⟨⟨by simp,by simp⟩,lc,hn⟩
 ·exact⟨by decide,Nat.zero_le _,Nat.zero_le _⟩
def aES:∀c∈([⟨4,bc,[]⟩]:List fO),c.Wf:=by
 intro c hc;simp only[cX,kY,or_false]at hc;subst hc;exact⟨by decide,lc,Nat.zero_le _⟩
def EK:∀S:St,eF S 1 .nils=some (aL []):=fun S=>rfl
def Wo{o K:Nat}{D D':Dk}{R:RD}{name:Nm}{e:Int}(hrun:gN o [] (kj name) K D e D')(hr:cQ D R)(hR:R.Wf K)(hK:K≤900000)(hn:name.length≤maxLen)(k:Nat)(S:St) :
  ∃R',aO T 251 [R.v,.sl (some (k,2)) [.agg [.int .i64 1,.str name,.str [],.int .i64 0],.agg [.int .i64 6,.str [],.str [],.int .i64 0]] [],.nils] S=some (.tup [R'.v,.int .i64 e],S)∧cQ D' R'∧R'.Wf (K+12):=by
 obtain⟨R',q1,q2,q3⟩:=EG (bv:=.nils) EK rfl (Nat.zero_le _) rfl rfl (EJ (cs:=kj name) (.inr ⟨k,rfl⟩)) (aEQ hn) (by simp[kj]) hrun hr hR (by simp[kj];omega) S;exact⟨R',q1,q2,q3.mono (by simp[kj])⟩
def EL{o K:Nat}{D D':Dk}{R:RD}{e:Int}(hrun:gN o [] [⟨4,bc,[]⟩] K D e D')(hr:cQ D R)(hR:R.Wf K)(hK:K≤900000)(k:Nat)(S:St) :
  ∃R',aO T 251 [R.v,.sl (some (k,1)) [.agg [.int .i64 4,.str [116,109,112],.str [],.int .i64 0]] [],.nils] S=some (.tup [R'.v,.int .i64 e],S)∧cQ D' R'∧R'.Wf (K+2):=by
 obtain⟨R',q1,q2,q3⟩:=EG (bv:=.nils) EK rfl (Nat.zero_le _) rfl rfl (EJ (cs:=[⟨4,bc,[]⟩]) (.inr ⟨k,rfl⟩)) aES (by simp) hrun hr hR (by simp;omega) S;exact⟨R',q1,q2,q3⟩
def zH{o K:Nat}{D D':Dk}{R:RD}{name:Nm}{e:Int}{b:List UInt8}{bv:PV}(hb:cC 1 bv (aL b))(hbl:b.length≤maxLen)(hrun:gN o b (kN name) K D e D')(hr:cQ D R)(hR:R.Wf K)(hK:K≤900002)(hn:name.length≤maxLen)(k:Nat)(S:St) :
  ∃R',aO T 251 [R.v,.sl (some (k,5)) [.agg [.int .i64 1,.str [116,109,112],.str [],.int .i64 0],.agg [.int .i64 2,.str [116,109,112],.str [],.int .i64 0],.agg [.int .i64 5,.str [116,109,112],.str [],.int .i64 0],.agg [.int .i64 3,.str [116,109,112],.str name,.int .i64 0],.agg [.int .i64 6,.str [],.str [],.int .i64 0]] [],bv] S=some (.tup [R'.v,.int .i64 e],S)∧cQ D' R'∧R'.Wf (K+10):=by
 have hl:=hb.len;rw[bO]at hl;obtain⟨R',q1,q2,q3⟩:=EG (bv:=bv) (fun S=>hb.appd S) hl hbl hb.free hb.frz (EJ (cs:=kN name) (.inr ⟨k,rfl⟩)) (aER hn) (by simp[kN]) hrun hr hR (by simp[kN];omega) S;exact⟨R',q1,q2,q3.mono (by simp[kN])⟩
set_option maxRecDepth 20000 in
set_option maxHeartbeats 8000000 in
def aET{S0:St}{o K:Nat}{D D':Dk}{R:RD}{name:Nm}{e:Int}{rs:List bq}{n:Nat}(h:At S0 o K D)(hO:ld o name K D e rs n D')(hr:cQ D R)(hR:R.Wf K)(hK:K≤900000)(hn:name.length≤maxLen)(S:St) :
  ∃r S',aO T 145 [R.v,.str name] S=some (r,S')∧aEP S D' (K+12) e name rs n r S':=by
 have o1:=hR.fs.one.1;have o2:=hR.bs.one.1;have o3:=hR.ws.one.1;obtain⟨hre,hrb⟩:=Wn h hr name;have hrd:=fun S1=>VQ hR (by omega) hn (fun e he=>(DX h hr e he).2) (S:=S1);have hsl:=DM hR name;rw[hre]at hrd;rw[hrb]at hsl;have hbl:=(zF h name).2;have plus1:S.objs.length+1+1=S.objs.length+2:=rfl;have gr:∀(a b c:List PV) (t:List (Nat×Nat)),aP S ⟨S.objs++[a,b,c],S.tips++t⟩:=fun a b c t=>((aP.refl S).objs _).arrs t;have gr0:∀(a b c:List PV),aP S ⟨S.objs++[a,b,c],S.tips⟩:=fun a b c=>(aP.refl S).objs _;have hne:∀{name:Nm},name≠bc→(name==[116,109,112])=false:=fun h=>by rw[beq_eq_false_iff_ne];exact h
 cases hO with
 |tmp hnm=>
  have hf:=lq hR (gr0 R.c R.c [.str [],.int .i64 0,.int .i64 0]) [] 0 0 8 (v:=.nils) rfl rfl;refine⟨_,S,?_,⟨rfl,R,.nils,[],rfl,hr,hR.mono (by omega),.inl ⟨rfl,rfl⟩,trivial,rfl,rfl⟩⟩;subst hnm;show aO T 145 [R.v,.str bc] S=some (.tup [R.v,.agg [.str [],.int .i64 0,.int .i64 0],.nils,.int .i64 8],S);simp only[RD.v,RD.c]at hf ⊢;refine aW lj rfl ?_;simp -implicitDefEqProofs [jB,bc,aI,plus1,o1,o2,o3,aR,aQ,bK,ah,dj,dk,dl,dm,dp,dq,dr,cw,cx]
  refine lm ?_ ?_ ?_ ?_ hf<;>simp[cw,cx,ah,ek]
 |bad hnm h0 h9=>
  have hf:=lq hR (gr0 R.c R.c [.str [],.int .i64 0,.int .i64 0]) [] 0 0 (df D name) (v:=.nils) rfl rfl;have hrv:eU R name=.nils:=by unfold eU;rw[hre,if_neg h0]
  rw[hrv]at hrd;have h0b:(df D name != 0)=true:=by simpa using h0
  have h9b:(df D name==9)=false:=by simpa using h9
  have hrl:jM (df D name) name [] 0=[.str [],.int .i64 0,.int .i64 0]:=by unfold jM;rw[if_neg h0]
  refine⟨_,S,?_,⟨rfl,R,.nils,[],rfl,hr,hR.mono (by omega),.inl ⟨rfl,rfl⟩,trivial,rfl,rfl⟩⟩;rw[hrl];generalize df D name=re at *;have hnb:=hne hnm;simp only[RD.v,RD.c]at hf hrd ⊢;refine aW lj rfl ?_;simp -implicitDefEqProofs [-pA,-mK,jB,hnb,hrd,h0b,h9b,aI,plus1,o1,o2,o3,aR,aQ,bK,ah,dj,dk,dl,dm,dp,dq,dr,cw,cx]
  refine lm ?_ ?_ ?_ ?_ hf<;>simp[cw,cx,ah,ek]
 |newBad hnm h9 e D1 hrun he=>
  obtain⟨R',hst,hr',hR'⟩:=Wo hrun hr hR hK hn S.tips.length ⟨S.objs++[R.c,dE,[.str [],.int .i64 0,.int .i64 0]],S.tips++[(2,4)]⟩;have p1:=hR'.fs.one.1;have p2:=hR'.bs.one.1;have p3:=hR'.ws.one.1;have hf:=lq hR' (gr R'.c R'.c [.str [],.int .i64 0,.int .i64 0] [(2,4)]) [] 0 0 e (v:=.nils) rfl rfl;have hrv:eU R name=.nils:=by unfold eU;rw[hre,if_neg (by omega)]
  rw[hrv,h9]at hrd;have heb:(e != 0)=true:=by simpa using he
  have hrl:jM e name [] 0=[.str [],.int .i64 0,.int .i64 0]:=by unfold jM;rw[if_neg he]
  refine⟨_,S,?_,⟨rfl,R',.nils,[],rfl,hr',hR',.inl ⟨rfl,rfl⟩,trivial,rfl,rfl⟩⟩;rw[hrl];have hnb:=hne hnm;simp only[RD.v,RD.c,dE]at hf hrd hst ⊢;refine aW lj rfl ?_;simp -implicitDefEqProofs [-Zx,-mK,jB,hnb,hrd,hst,heb,bL,bR,bp,aI,plus1,o1,o2,o3,p1,p2,p3,aR,aQ,bK,ah,dj,dk,dl,dm,dp,dq,dr,cw,cx]
  refine lm ?_ ?_ ?_ ?_ hf<;>simp[cw,cx,ah,ek]
 |new hnm h9 _ hrun=>
  obtain⟨R',hst,hr',hR'⟩:=Wo hrun hr hR hK hn S.tips.length ⟨S.objs++[R.c,dE,[.str [],.int .i64 0,.int .i64 0]],S.tips++[(2,4)]⟩;have p1:=hR'.fs.one.1;have p2:=hR'.bs.one.1;have p3:=hR'.ws.one.1;have hrv:eU R name=.nils:=by unfold eU;rw[hre,if_neg (by omega)]
  rw[hrv,h9]at hrd;obtain⟨v,es,w1,w2,w3,w4,w5⟩:=zG (s:=[]) (bv:=.nils) (.inl ⟨rfl,rfl⟩) (by simp) ⟨S.objs++[R'.c,dE,[.str [],.int .i64 0,.int .i64 0]],S.tips++[(2,4)]⟩;have hes:es=[]:=by cases es with|nil=>rfl|cons=>cases w3
  subst hes;have wl:=w2.len;simp only[cT]at wl;have hl0:cz false PV.nils=some (.int .i64 0):=rfl;have hf:=lq hR' (gr R'.c R'.c [.str name,.int .i64 0,.int .i64 0] [(2,4)]) name 0 0 0 (v:=v) w4 w5;refine⟨_,S,?_,⟨rfl,R',v,[],rfl,hr',hR',w2,w3,w4,w5⟩⟩;show aO T 145 [R.v,.str name] S=some (.tup [R'.v,.agg [.str name,.int .i64 0,.int .i64 0],v,.int .i64 0],S);have hnb:=hne hnm;have w1:aO T 252 [.nils] ⟨S.objs++[R'.c,dE,[.str [],.int .i64 0,.int .i64 0]],S.tips++[(2,4)]⟩=some (.tup [v,.int .i64 0],⟨S.objs++[R'.c,dE,[.str [],.int .i64 0,.int .i64 0]],S.tips++[(2,4)]⟩):=w1;simp only[RD.v,RD.c,dE]at hf hrd hst w1 ⊢;refine aW lj rfl ?_;simp -implicitDefEqProofs [-mK,jB,hnb,hrd,hst,bL,bR,bp,aI,plus1,o1,o2,o3,p1,p2,p3,aR,aQ,bK,ah,dj,dk,dl,dm,dp,dq,dr,cw,cx];simp -implicitDefEqProofs [-pB,w1,hl0,wl,bL,bR,bp,aI,plus1,o1,o2,o3,p1,p2,p3,aR,aQ,bK,ah,dj,dk,dl,dm,dp,dq,dr,cw,cx]
  refine lm ?_ ?_ ?_ ?_ hf<;>simp[cw,cx,ah,ek]
 |old hnm h0 hfull=>
  have hrv:=hrd;rw[h0]at hrd;obtain⟨v,es,w1,w2,w3,w4,w5⟩:=zG hsl.isl (by omega) ⟨S.objs++[R.c,dE,[.str [],.int .i64 0,.int .i64 0]],S.tips⟩;have wl:=w2.len;rw[w3.len]at wl;have hlen:=hsl.len;rw[bO]at hlen;have hf:=lq hR (gr0 R.c R.c [.str name,.int .i64 ((cR (bE D name)).1.length:Int),.int .i64 ((cR (bE D name)).2:Int)]) name ((cR (bE D name)).1.length:Int) ((cR (bE D name)).2:Int) 0 (v:=v) w4 w5;refine⟨_,S,?_,⟨rfl,R,v,es,rfl,hr,hR.mono (by omega),w2,w3,w4,w5⟩⟩;show aO T 145 [R.v,.str name] S=some (.tup [R.v,.agg [.str name,.int .i64 ((cR (bE D name)).1.length:Int),.int .i64 ((cR (bE D name)).2:Int)],v,.int .i64 0],S);have hnl:¬((cR (bE D name)).2:Int)<((bE D name).length:Int):=by omega
  have hnb:=hne hnm;generalize (cR (bE D name)).1.length=wn at *;generalize (cM (bE D name) ((bE D name).length+1) 0).2=ws at *;generalize eU R name=bv at *;simp only[RD.v,RD.c,dE]at hf hrd w1 ⊢;refine aW lj rfl ?_;simp -implicitDefEqProofs [-pA,-qm,-mK,jB,hnb,hrd,bL,bR,bp,aI,plus1,o1,o2,o3,aR,aQ,bK,ah,dj,dk,dl,dm,dp,dq,dr,cw,cx];simp -implicitDefEqProofs [-pB,w1,hlen,wl,hnl,bL,bR,bp,aI,plus1,o1,o2,o3,aR,aQ,bK,ah,dj,dk,dl,dm,dp,dq,dr,cw,cx]
  refine lm ?_ ?_ ?_ ?_ hf<;>simp[cw,cx,ah,ek]
 |cutBad hnm h0 hcut e D1 ha he=>
  have hlen:=hsl.len;rw[bO]at hlen
  have hdark:D.dark=false:=by
   cases hd:D.dark with
   |false=>rfl
   |true=>unfold df at h0;rw[hd]at h0;split at h0<;>simp_all
  obtain⟨s1,s2⟩:=hsl.slc (k:=(cR (bE D name)).2) (j:=.i64) (by rw[bO];omega);rw[rM]at s2;have hbl2:((bE D name).take (cR (bE D name)).2).length≤maxLen:=by rw[List.length_take];unfold maxLen;omega
  rw[h0]at hrd;obtain⟨v,es,w1,w2,w3,w4,w5⟩:=zG hsl.isl (by omega) ⟨S.objs++[R.c,dE,[.str [],.int .i64 0,.int .i64 0]],S.tips⟩;have wl:=w2.len;rw[w3.len]at wl;obtain⟨lv,l1,l2⟩:=uS hR (by omega) (S:=⟨S.objs++[R.c,dE,[.str [],.int .i64 0,.int .i64 0]],S.tips⟩);have hat:=uQ l2.reads (by have:=lS hR;unfold maxLen;omega) (n:=bc) (S:=⟨S.objs++[R.c,dE,[.str [],.int .i64 0,.int .i64 0]],S.tips⟩);have htmp:=Wm h hr hdark;have hlt:((cR (bE D name)).2:Int)<((bE D name).length:Int):=by omega
  have hnb:=hne hnm
  cases ha with
  |no hc _ _ hrun=>
   have hno:¬0≤bC bc (aZ R):=fun q=>hc (htmp.1 q);obtain⟨R',hst,hr',hR'⟩:=zH s2 hbl2 hrun hr hR (by omega) hn S.tips.length ⟨S.objs++[R.c,dE,[.str [],.int .i64 0,.int .i64 0]],S.tips++[(5,4)]⟩;have p1:=hR'.fs.one.1;have p2:=hR'.bs.one.1;have p3:=hR'.ws.one.1;have hf:=lq hR' (gr R'.c R'.c [.str [],.int .i64 0,.int .i64 0] [(5,4)]) [] 0 0 e (v:=.nils) rfl rfl;have hrl:jM e name [] 0=[.str [],.int .i64 0,.int .i64 0]:=by unfold jM;rw[if_neg he]
   have heb:(e != 0)=true:=by simpa using he
   refine⟨_,S,?_,⟨rfl,R',.nils,[],rfl,hr',hR'.mono (by omega),.inl ⟨rfl,rfl⟩,trivial,rfl,rfl⟩⟩;rw[hrl];generalize (cR (bE D name)).1.length=wn at *;generalize (cM (bE D name) ((bE D name).length+1) 0).2=ws at *;generalize eU R name=bv at *;generalize bC bc (aZ R)=ar at *;generalize kH bv ws=cv at *;simp only[RD.v,RD.c,dE,bc]at hf hrd w1 l1 hat hst ⊢;refine aW lj rfl ?_;simp -implicitDefEqProofs [-pA,-qm,-mK,jB,hnb,hrd,bL,bR,bp,aI,plus1,o1,o2,o3,aR,aQ,bK,ah,dj,dk,dl,dm,dp,dq,dr,cw,cx];simp -implicitDefEqProofs [-pB,-mL,w1,hlen,hlt,bL,bR,bp,aI,plus1,o1,o2,o3,aR,aQ,bK,ah,dj,dk,dl,dm,dp,dq,dr,cw,cx];simp -implicitDefEqProofs [-tS,-nI,l1,hat,hno,bL,bR,bp,aI,plus1,o1,o2,o3,aR,aQ,bK,ah,dj,dk,dl,dm,dp,dq,dr,cw,cx];simp -implicitDefEqProofs [-mL,s1,hst,heb,p1,p2,p3,bL,bR,bp,aI,plus1,o1,o2,o3,aR,aQ,bK,ah,dj,dk,dl,dm,dp,dq,dr,cw,cx]
   refine lm ?_ ?_ ?_ ?_ hf<;>simp[cw,cx,ah,ek]
  |err hc _ _ hrun _=>
   have hyes:0≤bC bc (aZ R):=htmp.2 hc;obtain⟨R',hst,hr',hR'⟩:=EL hrun hr hR hK S.tips.length ⟨S.objs++[R.c,dE,[.str [],.int .i64 0,.int .i64 0]],S.tips++[(1,4)]⟩;have p1:=hR'.fs.one.1;have p2:=hR'.bs.one.1;have p3:=hR'.ws.one.1;have hf:=lq hR' (gr R'.c R'.c [.str [],.int .i64 0,.int .i64 0] [(1,4)]) [] 0 0 e (v:=.nils) rfl rfl;have hrl:jM e name [] 0=[.str [],.int .i64 0,.int .i64 0]:=by unfold jM;rw[if_neg he]
   have heb:(e != 0)=true:=by simpa using he
   refine⟨_,S,?_,⟨rfl,R',.nils,[],rfl,hr',hR'.mono (by omega),.inl ⟨rfl,rfl⟩,trivial,rfl,rfl⟩⟩;rw[hrl];generalize (cR (bE D name)).1.length=wn at *;generalize (cM (bE D name) ((bE D name).length+1) 0).2=ws at *;generalize eU R name=bv at *;generalize bC bc (aZ R)=ar at *;generalize kH bv ws=cv at *;simp only[RD.v,RD.c,dE,bc]at hf hrd w1 l1 hat hst ⊢;refine aW lj rfl ?_;simp -implicitDefEqProofs [-pA,-qm,-mK,jB,hnb,hrd,bL,bR,bp,aI,plus1,o1,o2,o3,aR,aQ,bK,ah,dj,dk,dl,dm,dp,dq,dr,cw,cx];simp -implicitDefEqProofs [-pB,-mL,w1,hlen,hlt,bL,bR,bp,aI,plus1,o1,o2,o3,aR,aQ,bK,ah,dj,dk,dl,dm,dp,dq,dr,cw,cx];simp -implicitDefEqProofs [-tS,-nI,l1,hat,hyes,bL,bR,bp,aI,plus1,o1,o2,o3,aR,aQ,bK,ah,dj,dk,dl,dm,dp,dq,dr,cw,cx];simp -implicitDefEqProofs [-nI,hst,heb,p1,p2,p3,bL,bR,bp,aI,plus1,o1,o2,o3,aR,aQ,bK,ah,dj,dk,dl,dm,dp,dq,dr,cw,cx]
   refine lm ?_ ?_ ?_ ?_ hf<;>simp[cw,cx,ah,ek]
  |ok hc D2 _ _ hrem hrun=>
   have hyes:0≤bC bc (aZ R):=htmp.2 hc;obtain⟨R1,hst1,hr1,hR1⟩:=EL hrem hr hR hK S.tips.length ⟨S.objs++[R.c,dE,[.str [],.int .i64 0,.int .i64 0]],S.tips++[(1,4)]⟩;obtain⟨R',hst,hr',hR'⟩:=zH s2 hbl2 hrun hr1 hR1 (by omega) hn (S.tips.length+1) ⟨S.objs++[R1.c,dE,[.str [],.int .i64 0,.int .i64 0]],S.tips++[(1,4),(5,4)]⟩;have p1:=hR'.fs.one.1;have p2:=hR'.bs.one.1;have p3:=hR'.ws.one.1;have y1:=hR1.fs.one.1;have y2:=hR1.bs.one.1;have y3:=hR1.ws.one.1;have hf:=lq hR' (gr R'.c R'.c [.str [],.int .i64 0,.int .i64 0] [(1,4),(5,4)]) [] 0 0 e (v:=.nils) rfl rfl;have hrl:jM e name [] 0=[.str [],.int .i64 0,.int .i64 0]:=by unfold jM;rw[if_neg he]
   have heb:(e != 0)=true:=by simpa using he
   refine⟨_,S,?_,⟨rfl,R',.nils,[],rfl,hr',hR'.mono (by omega),.inl ⟨rfl,rfl⟩,trivial,rfl,rfl⟩⟩;rw[hrl];generalize (cR (bE D name)).1.length=wn at *;generalize (cM (bE D name) ((bE D name).length+1) 0).2=ws at *;generalize eU R name=bv at *;generalize bC bc (aZ R)=ar at *;generalize kH bv ws=cv at *;simp only[RD.v,RD.c,dE,bc]at hf hrd w1 l1 hat hst hst1 ⊢;refine aW lj rfl ?_;simp -implicitDefEqProofs [-pA,-qm,-mK,jB,hnb,hrd,bL,bR,bp,aI,plus1,o1,o2,o3,aR,aQ,bK,ah,dj,dk,dl,dm,dp,dq,dr,cw,cx];simp -implicitDefEqProofs [-pB,-mL,w1,hlen,hlt,bL,bR,bp,aI,plus1,o1,o2,o3,aR,aQ,bK,ah,dj,dk,dl,dm,dp,dq,dr,cw,cx];simp -implicitDefEqProofs [-tS,-nI,l1,hat,hyes,bL,bR,bp,aI,plus1,o1,o2,o3,aR,aQ,bK,ah,dj,dk,dl,dm,dp,dq,dr,cw,cx];simp -implicitDefEqProofs [-nI,-Lf,hst1,y1,y2,y3,bL,bR,bp,aI,plus1,o1,o2,o3,aR,aQ,bK,ah,dj,dk,dl,dm,dp,dq,dr,cw,cx]
   simp -implicitDefEqProofs [-mL,s1,hst,heb,p1,p2,p3,y1,y2,y3,bL,bR,bp,aI,plus1,o1,o2,o3,aR,aQ,bK,ah,dj,dk,dl,dm,dp,dq,dr,cw,cx]
   refine lm ?_ ?_ ?_ ?_ hf<;>simp[cw,cx,ah,ek]
 |cut hnm h0 hcut D1 ha=>
  have hlen:=hsl.len;rw[bO]at hlen
  have hdark:D.dark=false:=by
   cases hd:D.dark with
   |false=>rfl
   |true=>unfold df at h0;rw[hd]at h0;split at h0<;>simp_all
  obtain⟨s1,s2⟩:=hsl.slc (k:=(cR (bE D name)).2) (j:=.i64) (by rw[bO];omega);rw[rM]at s2;have hbl2:((bE D name).take (cR (bE D name)).2).length≤maxLen:=by rw[List.length_take];unfold maxLen;omega
  rw[h0]at hrd;obtain⟨v,es,w1,w2,w3,w4,w5⟩:=zG hsl.isl (by omega) ⟨S.objs++[R.c,dE,[.str [],.int .i64 0,.int .i64 0]],S.tips⟩;have wl:=w2.len;rw[w3.len]at wl;obtain⟨lv,l1,l2⟩:=uS hR (by omega) (S:=⟨S.objs++[R.c,dE,[.str [],.int .i64 0,.int .i64 0]],S.tips⟩);have hat:=uQ l2.reads (by have:=lS hR;unfold maxLen;omega) (n:=bc) (S:=⟨S.objs++[R.c,dE,[.str [],.int .i64 0,.int .i64 0]],S.tips⟩);have htmp:=Wm h hr hdark;have hlt:((cR (bE D name)).2:Int)<((bE D name).length:Int):=by omega
  have hnb:=hne hnm
  cases ha with
  |no hc _ _ hrun=>
   have hno:¬0≤bC bc (aZ R):=fun q=>hc (htmp.1 q);obtain⟨R',hst,hr',hR'⟩:=zH s2 hbl2 hrun hr hR (by omega) hn S.tips.length ⟨S.objs++[R.c,dE,[.str [],.int .i64 0,.int .i64 0]],S.tips++[(5,4)]⟩;have p1:=hR'.fs.one.1;have p2:=hR'.bs.one.1;have p3:=hR'.ws.one.1;have hf:=lq hR' (gr R'.c R'.c [.str name,.int .i64 ((cR (bE D name)).1.length:Int),.int .i64 ((cR (bE D name)).2:Int)] [(5,4)]) name ((cR (bE D name)).1.length:Int) ((cR (bE D name)).2:Int) 0 (v:=v) w4 w5;refine⟨_,S,?_,⟨rfl,R',v,es,rfl,hr',hR'.mono (by omega),w2,w3,w4,w5⟩⟩;show aO T 145 [R.v,.str name] S=some (.tup [R'.v,.agg [.str name,.int .i64 ((cR (bE D name)).1.length:Int),.int .i64 ((cR (bE D name)).2:Int)],v,.int .i64 0],S);generalize (cR (bE D name)).1.length=wn at *;generalize (cM (bE D name) ((bE D name).length+1) 0).2=ws at *;generalize eU R name=bv at *;generalize bC bc (aZ R)=ar at *;generalize kH bv ws=cv at *
   simp only[RD.v,RD.c,dE,bc]at hf hrd w1 l1 hat hst ⊢;refine aW lj rfl ?_;simp -implicitDefEqProofs [-pA,-qm,-mK,jB,hnb,hrd,bL,bR,bp,aI,plus1,o1,o2,o3,aR,aQ,bK,ah,dj,dk,dl,dm,dp,dq,dr,cw,cx];simp -implicitDefEqProofs [-pB,-mL,w1,hlen,hlt,bL,bR,bp,aI,plus1,o1,o2,o3,aR,aQ,bK,ah,dj,dk,dl,dm,dp,dq,dr,cw,cx];simp -implicitDefEqProofs [-tS,-nI,l1,hat,hno,bL,bR,bp,aI,plus1,o1,o2,o3,aR,aQ,bK,ah,dj,dk,dl,dm,dp,dq,dr,cw,cx];simp -implicitDefEqProofs [-Lj,-mL,s1,hst,p1,p2,p3,bL,bR,bp,aI,plus1,o1,o2,o3,aR,aQ,bK,ah,dj,dk,dl,dm,dp,dq,dr,cw,cx];simp -implicitDefEqProofs [wl,p1,p2,p3,bL,bR,bp,aI,plus1,o1,o2,o3,aR,aQ,bK,ah,dj,dk,dl,dm,dp,dq,dr,cw,cx]
   refine lm ?_ ?_ ?_ ?_ hf<;>simp[cw,cx,ah,ek]
  |err hc _ _ hrun he=>exact absurd rfl he
  |ok hc D2 _ _ hrem hrun=>
   have hyes:0≤bC bc (aZ R):=htmp.2 hc;obtain⟨R1,hst1,hr1,hR1⟩:=EL hrem hr hR hK S.tips.length ⟨S.objs++[R.c,dE,[.str [],.int .i64 0,.int .i64 0]],S.tips++[(1,4)]⟩;obtain⟨R',hst,hr',hR'⟩:=zH s2 hbl2 hrun hr1 hR1 (by omega) hn (S.tips.length+1) ⟨S.objs++[R1.c,dE,[.str [],.int .i64 0,.int .i64 0]],S.tips++[(1,4),(5,4)]⟩;have p1:=hR'.fs.one.1;have p2:=hR'.bs.one.1;have p3:=hR'.ws.one.1;have y1:=hR1.fs.one.1;have y2:=hR1.bs.one.1;have y3:=hR1.ws.one.1;have hf:=lq hR' (gr R'.c R'.c [.str name,.int .i64 ((cR (bE D name)).1.length:Int),.int .i64 ((cR (bE D name)).2:Int)] [(1,4),(5,4)]) name ((cR (bE D name)).1.length:Int) ((cR (bE D name)).2:Int) 0 (v:=v) w4 w5;refine⟨_,S,?_,⟨rfl,R',v,es,rfl,hr',hR'.mono (by omega),w2,w3,w4,w5⟩⟩;show aO T 145 [R.v,.str name] S=some (.tup [R'.v,.agg [.str name,.int .i64 ((cR (bE D name)).1.length:Int),.int .i64 ((cR (bE D name)).2:Int)],v,.int .i64 0],S)
   generalize (cR (bE D name)).1.length=wn at *;generalize (cM (bE D name) ((bE D name).length+1) 0).2=ws at *;generalize eU R name=bv at *;generalize bC bc (aZ R)=ar at *;generalize kH bv ws=cv at *;simp only[RD.v,RD.c,dE,bc]at hf hrd w1 l1 hat hst hst1 ⊢;refine aW lj rfl ?_;simp -implicitDefEqProofs [-pA,-qm,-mK,jB,hnb,hrd,bL,bR,bp,aI,plus1,o1,o2,o3,aR,aQ,bK,ah,dj,dk,dl,dm,dp,dq,dr,cw,cx];simp -implicitDefEqProofs [-pB,-mL,w1,hlen,hlt,bL,bR,bp,aI,plus1,o1,o2,o3,aR,aQ,bK,ah,dj,dk,dl,dm,dp,dq,dr,cw,cx];simp -implicitDefEqProofs [-tS,-nI,l1,hat,hyes,bL,bR,bp,aI,plus1,o1,o2,o3,aR,aQ,bK,ah,dj,dk,dl,dm,dp,dq,dr,cw,cx];simp -implicitDefEqProofs [-nI,-Lf,hst1,y1,y2,y3,bL,bR,bp,aI,plus1,o1,o2,o3,aR,aQ,bK,ah,dj,dk,dl,dm,dp,dq,dr,cw,cx];simp -implicitDefEqProofs [-Lj,-mL,s1,hst,p1,p2,p3,y1,y2,y3,bL,bR,bp,aI,plus1,o1,o2,o3,aR,aQ,bK,ah,dj,dk,dl,dm,dp,dq,dr,cw,cx]
   simp -implicitDefEqProofs [wl,p1,p2,p3,y1,y2,y3,bL,bR,bp,aI,plus1,o1,o2,o3,aR,aQ,bK,ah,dj,dk,dl,dm,dp,dq,dr,cw,cx];refine lm ?_ ?_ ?_ ?_ hf<;>simp[cw,cx,ah,ek]
end Ps
set_option linter.defProp false
namespace Ps
set_option linter.unusedSimpArgs false
open Go
def aD0:bY T 3000 57 [] bk=some (.bool true,bk):=by kernel_rfl
end Ps
set_option linter.defProp false
namespace Ps
set_option linter.unusedSimpArgs false
set_option linter.unusedVariables false
open Go
def aMm:T.fn 253=some (.code te):=rfl
def aMn:T.fn 175=some (.code tv):=rfl
def aMo:T.fn 149=some (.code qr):=rfl
def aMp{l:List Int}{v1 v2:PV}(h1:bT 1 v1 (nV l))(h2:bT 1 v2 (nV l))(hm:l.length≤100000000){K:List Kt}{Q:Fr→St→Prop}{S:St}:∀(r p:List Int) (fr:Fr),l=p++r →
  fr 0=v1→fr 1=v2→fr 5=.int .i64 p.length→(∀fr',Ok (aJ T K fr' S) Q)→Ok (aJ T (.lp CR::.blk 0::K) fr S) Q:=by
 have hlen:=h1.len;rw[gS]at hlen;intro r
 induction r with
 |nil=>
  intro p fr e f0 f1 f5 k;rw[cI]at e;subst e;rw[af];simp -implicitDefEqProofs [f0,f5,hlen]
  exact k _
 |cons n r ih=>
  intro p fr e f0 f1 f5 k;have hlt:p.length<l.length:=by rw[e];simp
  have g1:=jP h1 e (k:=.i64);have g2:=jP h2 e (k:=.i64);have hw:=dR (a:=p.length) (by omega);rw[af];simp -implicitDefEqProofs [f0,f1,f5,hlen,hlt,g1,g2,ba,hw];exact ih (p++[n]) _ (by simp[e]) (by simp[f0]) (by simp[f1]) (by simp[hw]) k
def aMq{l:List Int}{v1 v2:PV}(h1:bT 1 v1 (nV l))(h2:bT 1 v2 (nV l))(hm:l.length≤100000000)(S:St):aO T 175 [v1,v2] S=some (.bool true,S):=by
 have l1:=h1.len;have l2:=h2.len;rw[gS]at l1 l2;refine aW aMn rfl ?_;simp -implicitDefEqProofs [tv,l1,l2];refine aMp h1 h2 hm l [] _ rfl (by simp) (by simp) (by simp) (fun fr'=>?_);simp
def aMr{l:List cg}{v1 v2:PV}(h1:bT 3 v1 (l.map dC))(h2:bT 3 v2 (l.map dC))(hm:l.length≤100000000){c0 c1 c3 c4 c5 d0 d1 d3 d4 d5:PV}{K:List Kt}{Q:Fr→St→Prop}{S:St}:∀(r p:List cg) (fr:Fr),l=p++r →
  fr 2=.ref [c0,c1,v1,c3,c4,c5]→fr 3=.ref [d0,d1,v2,d3,d4,d5]→fr 5=.int .i64 p.length→(∀fr',Ok (aJ T K fr' S) Q)→Ok (aJ T (.lp Bx::.blk 0::K) fr S) Q:=by
 have hlen:=h1.len;rw[List.length_map]at hlen;intro r
 induction r with
 |nil=>
  intro p fr e f2 f3 f5 k;rw[cI]at e;subst e;rw[af];simp -implicitDefEqProofs [f2,f5,hlen,ba]
  exact k _
 |cons n r ih=>
  intro p fr e f2 f3 f5 k;have hlt:p.length<l.length:=by rw[e];simp
  have g1:=sP h1 e (k:=.i64);have g2:=sP h2 e (k:=.i64);have hw:=dR (a:=p.length) (by omega);rw[af];simp -implicitDefEqProofs [f2,f3,f5,hlen,hlt,g1,g2,ba,sO,hw,dy];exact ih (p++[n]) _ (by simp[e]) (by simp[f2]) (by simp[f3]) (by simp[hw]) k
def aMs{r:bq}{cs ds:List PV}(h:dG r cs)(k:dG r ds)(hm:r.rows.length≤100000000∧r.ids.length≤100000000)(S:St):aO T 253 [.agg cs,.agg ds] S=some (.bool true,S):=by
 obtain⟨⟨vl,vr,vi,rfl,h1,h2,h3⟩,hlens⟩:=h;obtain⟨⟨wl,wr,wi,rfl,k1,k2,k3⟩,_⟩:=k;have hal:([.int .i64 r.kind,vl,vr,vi,.int .i64 r.low,.int .i64 r.high]:List PV).all PV.one=true:=jk h1 h2 h3;have kal:([.int .i64 r.kind,wl,wr,wi,.int .i64 r.low,.int .i64 r.high]:List PV).all PV.one=true:=jk k1 k2 k3;have l1:=h1.len;have l2:=h2.len;have m1:=k1.len;have m2:=k2.len;rw[List.length_map]at l1 l2 m1 m2;have s1:=aMq h3.reads k3.reads hm.2 S;have s2:=aDe h1.reads k1.reads hlens.1 S;rw[WH.2 rfl]at s2;have s2':aO T 26 [vl,wl] S=some (.bool true,S):=s2;refine aW aMm rfl ?_;simp -implicitDefEqProofs [-List.all_eq_true,te,hal,kal,aI,ba,s1,s2',l1,l2,m1,m2]
 refine aMr (c0:=.int .i64 r.kind) (c1:=vl) (c3:=vi) (c4:=.int .i64 r.low) (c5:=.int .i64 r.high) (d0:=.int .i64 r.kind) (d1:=wl) (d3:=wi) (d4:=.int .i64 r.low) (d5:=.int .i64 r.high) h2.reads k2.reads hm.1 r.rows [] _ rfl (by simp) (by simp) (by simp) (fun fr'=>?_);simp
def ZM{r:bq}{cs:List PV}(h:dG r cs)(hm:r.labs.length≤100000000∧r.rows.length≤100000000∧r.ids.length≤100000000)(S:St):∃ds,aO T 149 [.agg cs] S=some (.agg ds,S)∧dG r ds:=by
 obtain⟨⟨vl,vr,vi,rfl,h1,h2,h3⟩,hlens⟩:=h;have key:=eB (T:=T) (f:=149) (c:=qr) aMo (args:=[.agg [.int .i64 r.kind,vl,vr,vi,.int .i64 r.low,.int .i64 r.high]]) (S:=S) rfl (R:=fun x S2=>S2=S∧∃ds,x=.agg ds∧dG r ds) ?_
 ·obtain⟨x,S2,q1,rfl,ds,rfl,q2⟩:=key;exact⟨ds,q1,q2⟩
 have hal:([.int .i64 r.kind,vl,vr,vi,.int .i64 r.low,.int .i64 r.high]:List PV).all PV.one=true:=jk h1 h2 h3;have p6:∀(a b c d e f:PV),ae true 6 [a,b,c,d,e,f]=some (.agg [a,b,c,d,e,f]):=fun a b c d e f=>by simp[ae]
 obtain⟨SA,hSA⟩:∃SA:St,SA=⟨S.objs++[[.int .i64 r.kind,vl,vr,vi,.int .i64 r.low,.int .i64 r.high],[.int .i64 0,.nils,.nils,.nils,.int .i64 0,.int .i64 0]],S.tips⟩:=⟨_,rfl⟩;have hlA:SA.objs.length=S.objs.length+2:=by rw[hSA];simp
 have oA:SA.objs[S.objs.length]?=some [.int .i64 r.kind,vl,vr,vi,.int .i64 r.low,.int .i64 r.high]:=by rw[hSA];simp
 have aA:SA.objs[S.objs.length+1]?=some [.int .i64 0,.nils,.nils,.nils,.int .i64 0,.int .i64 0]:=by rw[hSA];simp
 have gA:aP S SA:=by rw[hSA];exact(aP.refl S).objs _
 obtain⟨w1,S1,a1,a2,a3⟩:=(pe 2 [] gA).app (bytes:=32) (r.labs.map bt) (by simp;omega);obtain⟨o1,t1⟩:=S1;simp only at a3;subst a3;simp only[cT,eE]at a1 a2;obtain⟨cc1,co1⟩:=lA a2;obtain⟨SB,hSB⟩:∃SB:St,SB=⟨SA.objs.set S.objs.length [.int .i64 r.kind,w1,vr,vi,.int .i64 r.low,.int .i64 r.high],t1⟩:=⟨_,rfl⟩;have a2B:bB S 2 SB w1 (r.labs.map bt):=by rw[hSB];exact⟨a2.grows.set (aj _),a2.acc⟩
 have hlB:SB.objs.length=S.objs.length+2:=by rw[hSB];simp[hlA]
 have oB:SB.objs[S.objs.length]?=some [.int .i64 r.kind,w1,vr,vi,.int .i64 r.low,.int .i64 r.high]:=by rw[hSB];simp[hlA]
 have aB:SB.objs[S.objs.length+1]?=some [.int .i64 0,.nils,.nils,.nils,.int .i64 0,.int .i64 0]:=by rw[hSB];simp only;rw[ak (by omega)];exact aA
 obtain⟨w2,S2,b1,b2,b3⟩:=(pe 3 [] a2B.grows).app (bytes:=24) (r.rows.map dC) (by simp;omega);obtain⟨o2,t2⟩:=S2;simp only at b3;subst b3;simp only[cT,eE]at b1 b2;obtain⟨cc2,co2⟩:=lA b2;obtain⟨SC,hSC⟩:∃SC:St,SC=⟨SB.objs.set S.objs.length [.int .i64 r.kind,w1,w2,vi,.int .i64 r.low,.int .i64 r.high],t2⟩:=⟨_,rfl⟩;have b2C:bB S 3 SC w2 (r.rows.map dC):=by rw[hSC];exact⟨b2.grows.set (aj _),b2.acc⟩
 have hlC:SC.objs.length=S.objs.length+2:=by rw[hSC];simp[hlB]
 have oC:SC.objs[S.objs.length]?=some [.int .i64 r.kind,w1,w2,vi,.int .i64 r.low,.int .i64 r.high]:=by rw[hSC];simp[hlB]
 have aC:SC.objs[S.objs.length+1]?=some [.int .i64 0,.nils,.nils,.nils,.int .i64 0,.int .i64 0]:=by rw[hSC];simp only;rw[ak (by omega)];exact aB
 obtain⟨w3,S3,c1,c2,c3⟩:=(pe 1 [] b2C.grows).app (bytes:=8) (nV r.ids) (by rw[gS];simp;omega);obtain⟨o3,t3⟩:=S3;simp only at c3;subst c3;simp only[cT,eE]at c1 c2;obtain⟨cc3,co3⟩:=lA c2;obtain⟨SD,hSD⟩:∃SD:St,SD=⟨SC.objs.set S.objs.length [.int .i64 r.kind,w1,w2,w3,.int .i64 r.low,.int .i64 r.high],t3⟩:=⟨_,rfl⟩;have gD:aP S SD:=by rw[hSD];exact c2.grows.set (aj _)
 have hlD:SD.objs.length=S.objs.length+2:=by rw[hSD];simp[hlC]
 have oD:SD.objs[S.objs.length]?=some [.int .i64 r.kind,w1,w2,w3,.int .i64 r.low,.int .i64 r.high]:=by rw[hSD];simp[hlC]
 have aD:SD.objs[S.objs.length+1]?=some [.int .i64 0,.nils,.nils,.nils,.int .i64 0,.int .i64 0]:=by rw[hSD];simp only;rw[ak (by omega)];exact aC
 have fz1:w1.free=true∧w1.frz=bo w1 (r.labs.map bt):=by
  rcases a2.acc with⟨h,_⟩|⟨id,_,h,_⟩
  ·rw[h];exact⟨rfl,rfl⟩
  ·rw[h];exact⟨by simp[PV.free,Dm,PV.freeL],by simp[bo,PV.frz,Do,PV.frzL]⟩
 have fz2:w2.free=true∧w2.frz=bo w2 (r.rows.map dC):=by
  rcases b2.acc with⟨h,_⟩|⟨id,_,h,_⟩
  ·rw[h];exact⟨rfl,rfl⟩
  ·rw[h];exact⟨by simp[PV.free,AL,PV.freeL],by simp[bo,PV.frz,Fb,PV.frzL]⟩
 have fz3:w3.free=true∧w3.frz=bo w3 (nV r.ids):=by
  rcases c2.acc with⟨h,_⟩|⟨id,_,h,_⟩
  ·rw[h];exact⟨rfl,rfl⟩
  ·rw[h];exact⟨by simp[PV.free,FO,PV.freeL],by simp[bo,PV.frz,FP,PV.frzL]⟩
 have hfin:ac false S ⟨SD.objs.set (S.objs.length+1) [.int .i64 r.kind,w1,w2,w3,.int .i64 r.low,.int .i64 r.high],t3⟩ (.agg [.int .i64 r.kind,w1,w2,w3,.int .i64 r.low,.int .i64 r.high]) =
   (.agg [.int .i64 r.kind,bo w1 (r.labs.map bt),bo w2 (r.rows.map dC),bo w3 (nV r.ids),.int .i64 r.low,.int .i64 r.high],S):=by
  have g:aP S ⟨SD.objs.set (S.objs.length+1) [.int .i64 r.kind,w1,w2,w3,.int .i64 r.low,.int .i64 r.high],t3⟩:=by
   have:=gD.set (i:=S.objs.length+1) (x:=[.int .i64 r.kind,w1,w2,w3,.int .i64 r.low,.int .i64 r.high]) (by omega);rw[hSD]at this ⊢;exact this
  rw[cN g (by simp[PV.free,PV.freeL,fz1.1,fz2.1,fz3.1])];simp[PV.frz,PV.frzL,fz1.2,fz2.2,fz3.2]
 have hA':St.mk (S.objs++[[.int .i64 r.kind,vl,vr,vi,.int .i64 r.low,.int .i64 r.high],[.int .i64 0,.nils,.nils,.nils,.int .i64 0,.int .i64 0]]) S.tips=SA:=hSA.symm;have hB':St.mk (SA.objs.set S.objs.length [.int .i64 r.kind,w1,vr,vi,.int .i64 r.low,.int .i64 r.high]) t1=SB:=hSB.symm;have hC':St.mk (SB.objs.set S.objs.length [.int .i64 r.kind,w1,w2,vi,.int .i64 r.low,.int .i64 r.high]) t2=SC:=hSC.symm;have hD':St.mk (SC.objs.set S.objs.length [.int .i64 r.kind,w1,w2,w3,.int .i64 r.low,.int .i64 r.high]) t3=SD:=hSD.symm;have tD:SD.tips=t3:=by rw[hSD]
 have og:(SD.objs.set (S.objs.length+1) [.int .i64 r.kind,w1,w2,w3,.int .i64 r.low,.int .i64 r.high])[S.objs.length+1]?=some [.int .i64 r.kind,w1,w2,w3,.int .i64 r.low,.int .i64 r.high]:=fY (by omega);have n1:0<(3:Nat):=by omega
 have oA2:(St.mk SA.objs (SA.tips++[(0,2)])).objs[S.objs.length]?=_:=oA;have oB2:(St.mk SB.objs (SB.tips++[(0,3)])).objs[S.objs.length]?=_:=oB;have oC2:(St.mk SC.objs (SC.tips++[(0,1)])).objs[S.objs.length]?=_:=oC;simp -implicitDefEqProofs [-List.all_eq_true,-aAb,qr,hal,aI,aR,hA',ba];simp -implicitDefEqProofs [-List.all_eq_true,-aAc,aI,bL,bR,aR,ba,aU oA2,h1.appdS,a1,oA,hB',cc1,co1];simp -implicitDefEqProofs [-List.all_eq_true,-aAd,aI,bL,bR,aR,ba,aU oB2,h2.appdS,b1,oB,hC',cc2,co2];simp -implicitDefEqProofs [-List.all_eq_true,-aAe,aI,bL,bR,aR,ba,aU oC2,h3.appdS,c1,oC,hD',cc3,co3];simp -implicitDefEqProofs [-List.all_eq_true,aI,aR,aU oD,p6,aD,og,tD,hfin,cc1,co1,cc2,co2,cc3,co3];exact⟨⟨_,_,_,rfl,lZ a2 (yq _),lZ b2 (sV _),lZ c2 (vg _)⟩,hlens⟩
abbrev kT:Ty:=.st (.pair (.int .i64) (.pair (.st (.pair (.int .i64) (.pair (.int .i64) .unit))) .unit))
abbrev mm:Ty:=.st (.pair (.int .i64) (.pair (.sl gm) (.pair (.sl kT) (.pair (.sl (.int .i64)) (.pair (.int .i64) (.pair (.int .i64) .unit))))))
def mo{e:Ty}(x:(Ty.sl e).den):List e.den:=match x with|none=>[]|some q=>q.1
def Fg{e:Ty}(he:e.isTy=true)(x:(Ty.sl e).den):bG e.n ((Ty.sl e).pv x) ((mo x).map e.pv):=by
 cases x with
 |none=>exact .inl ⟨rfl,rfl⟩
 |some q=>
  obtain⟨es,sp⟩:=q;refine .inr ⟨none,sp.map e.pv,rfl,fun v hv=>?_⟩;rcases dA.1 hv with hv|hv
  ·obtain⟨y,_,rfl⟩:=cD.1 hv;rw[su he,nA]
  ·obtain⟨y,_,rfl⟩:=cD.1 hv;rw[su he,nA]
def ZN{e:Ty}(h:∀x:e.den,1≤e.bulk x)(x:(Ty.sl e).den):(mo x).length≤(Ty.sl e).bulk x:=by
 cases x with
 |none=>exact Nat.zero_le _
 |some q=>
  obtain⟨es,sp⟩:=q;have:=Dp e h es;show es.length≤(es.map e.bulk).sum+(sp.map e.bulk).sum+1;omega
def ZO(x:kT.den):cg:=(x.1,x.2.1.1,x.2.1.2.1)
def oZ(x:mm.den):bq:=⟨x.1,pX x.2.1,(mo x.2.2.1).map ZO,mo x.2.2.2.1,x.2.2.2.2.1,x.2.2.2.2.2.1⟩
def aMt{x:mm.den}(h:mm.wf x)(hb:mm.bulk x≤1048576):(∃cs,mm.pv x=.agg cs∧dG (oZ x) cs)∧(oZ x).labs.length≤1048576∧(oZ x).rows.length≤1048576∧(oZ x).ids.length≤1048576:=by
 obtain⟨k,l,rows,ids,lo,hi,u⟩:=x;obtain⟨_,wl,_⟩:=h;have hb':1+((Ty.sl gm).bulk l+((Ty.sl kT).bulk rows+((Ty.sl (.int .i64)).bulk ids+(1+(1+0)))))+1≤1048576:=hb;have b1:=aDj l;have b2:=ZN (e:=kT) (fun _=>Nat.succ_le_succ (Nat.zero_le _)) rows;have b3:=ZN (e:=.int .i64) (fun _=>aj _) ids;obtain⟨_,wn⟩:=aC7 wl;have e1:(oZ (k,l,rows,ids,lo,hi,u)).labs.length=(pX l).length:=rfl;have e2:(oZ (k,l,rows,ids,lo,hi,u)).rows.length=(mo rows).length:=List.length_map ..;have e3:(oZ (k,l,rows,ids,lo,hi,u)).ids.length=(mo ids).length:=rfl;refine⟨⟨_,rfl,⟨(Ty.sl gm).pv l,(Ty.sl kT).pv rows,(Ty.sl (.int .i64)).pv ids,?_,?_,?_,?_⟩,?_⟩,by omega,by omega,by omega⟩
 ·have q:∀(e:Ty) (y:(Ty.sl e).den),(Ty.sl e).emb y=[(Ty.sl e).pv y]:=fun e y=>by cases y<;>rfl
  show [PV.int .i64 k]++((Ty.sl gm).emb l++((Ty.sl kT).emb rows++((Ty.sl (.int .i64)).emb ids++([PV.int .i64 lo]++([PV.int .i64 hi]++[])))))=_;rw[q,q,q];rfl
 ·have:=Fg (e:=gm) rfl l;have e:(mo l).map gm.pv=(pX l).map bt:=by cases l<;>rfl
  rw[e]at this;exact this
 ·have:=Fg (e:=kT) rfl rows
  have e:(mo rows).map kT.pv=((mo rows).map ZO).map dC:=by
   rw[oo];apply om;intro y _;rfl
  rw[e]at this;exact this
 ·exact Fg (e:=.int .i64) rfl ids
 ·refine⟨lB (by omega),lB (by omega),lB (by omega),fun y hy=>(wn y hy).1⟩
def Fh{r:bq}(h:cH r=0):(bW r).length≤10000:=by
 rcases AN h with⟨l,rfl,z⟩|⟨l,rfl,z⟩|⟨l,x,y,rfl,z,z1,z2,z3⟩
 ·obtain⟨h1,h2,_⟩:=mY.1 z;have a:=Dr h2;have b:=cu (n:=l.length) (by omega);have c:=cu (n:=1) (by omega);have he:bW ⟨1,l,[],[],0,0⟩=aN 1++(aN l.length++l.flatMap eW):=by simp[bW,ew]
  rw[he];simp only[List.length_append];omega
 ·obtain⟨y1,y2,y3⟩:=sS z
  have a:∀l:List cg,(∀x∈l,mi x)→(l.flatMap dY).length≤27*l.length:=by
   intro l
   induction l with
   |nil=>intro _;simp
   |cons x l ih=>
    intro h;have:=ih (fun y hy=>h y (by simp[hy]));have:=aLF (h x (by simp));simp only[fB,List.length_append,bV];omega
  have:=a l y3;have b:=cu (n:=l.length) (by omega);have c:=cu (n:=2) (by omega);have he:bW ⟨2,[],l,[],0,0⟩=aN 2++(aN l.length++l.flatMap dY):=by simp[bW]
  rw[he];simp only[List.length_append];omega
 ·obtain⟨p1,p2⟩:=qI z;have q1:=FT l 0 (by omega) p2;have q2:=cu (n:=l.length) (by omega);have q3:=cu (n:=x.toNat) (by omega);have q4:=cu (n:=y.toNat) (by omega);have c:=cu (n:=3) (by omega);have he:bW ⟨3,[],[],l,x,y⟩=aN 3++(aN l.length++(fH 0 l++(aN x.toNat++aN y.toNat))):=by simp[bW,ck]
  rw[he];simp only[List.length_append];omega
def aMu{r:bq}(h:cH r=0):r.labs.length≤100000000∧r.rows.length≤100000000∧r.ids.length≤100000000:=by
 rcases AN h with⟨l,rfl,z⟩|⟨l,rfl,z⟩|⟨l,x,y,rfl,z,z1,z2,z3⟩
 ·obtain⟨h1,h2,_⟩:=mY.1 z;simp;omega
 ·obtain⟨y1,y2,y3⟩:=sS z;simp;omega
 ·obtain⟨p1,p2⟩:=qI z;simp;omega
end Ps
