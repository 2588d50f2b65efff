/- A log's file laid down anew, whatever comes of it. -/
import Derived.Test.YtbjefjhmnojdoaaGreatDefs
import Derived.Test.YtbjefjhmnojdoaaGreatDV
import Derived.Test.YtbjefjhmnojdoaaGreatDI
import Derived.Test.YtbjefjhmnojdoaaGreatGJ
import Derived.Test.YtbjefjhmnojdoaaGreatQD
import Derived.Test.YtbjefjhmnojdoaaGreatWE
set_option linter.defProp false
namespace Ps
set_option linter.unusedSimpArgs false
set_option linter.unusedVariables false
open Go
def eJ(D:Dk)(k:Int)(n to:Nm)(b:List UInt8):Int:=
 if k=1 then fD D n else if k=2 then iB D n b else if k=3 then fZ D n to else if k=6 then 0 else cP D n
inductive fG(D:Dk)(k:Int)(n to:Nm)(b:List UInt8):Int→Dk→Prop where
 |refuse (hr:eJ D k n to b≠0):fG D k n to b (eJ D k n to b) D
 |dark (hr:eJ D k n to b=0) (hs:cY D=6):fG D k n to b 6 (aX D)
 |create (hk:k=1) (hr:fD D n=0) (hs:cY D=0) (F:Nat) (wv':PV) (hF:F∉D.fl):fG D k n to b 0 {aX (db D F)with live:=put n F D.live,wait:=D.wait++[([],n,some F)],wv:=wv'}
 |append (hk:k=2) (hr:iB D n b=0) (hs:cY D=0) (f:Nat) (v':PV) (hf:lk n D.live=some f):fG D k n to b 0 (dD (aX D) f v' (D.fb f++b) (D.fs f))
 |rename (hk:k=3) (hr:fZ D n to=0) (hs:cY D=0) (wv':PV):fG D k n to b 0 {aX D with live:=doE (n,to,none) D.live,wait:=D.wait++[(n,to,none)],wv:=wv'}
 |remove (hk:k=4) (hr:cP D n=0) (hs:cY D=0) (wv':PV):fG D k n to b 0 {aX D with live:=doE (n,[],none) D.live,wait:=D.wait++[(n,[],none)],wv:=wv'}
 |sync (hk:k=5) (hr:cP D n=0) (hs:cY D=0) (f:Nat) (hf:lk n D.live=some f):fG D k n to b 0 (dD (aX D) f (D.fv f) (D.fb f) (D.fb f).length)
 |syncdir (hk:k=6) (hs:cY D=0) (B:Nat):fG D k n to b 0 {aX D with bi:=B,base:=D.live,wait:=[],wv:=.nils}
def WW{S:St}{o K:Nat}{D:Dk}(h:At S o K D)(hK:K≤1048560){n:Nm}(hn:n.length≤maxLen)(to:Nm)(b:List UInt8) :
  ∃r S' D',aO T 77 [.ptr o 0,.str n] S=some (.int .i64 r,S')∧At S' o (K+2) D'∧bj o S S' D D'∧fG D 1 n to b r D':=by
 have hre:eJ D 1 n to b=fD D n:=by simp[eJ]
 by_cases he:fD D n=0
 ·rcases rE D with hs|hs
  ·obtain⟨wv',S',hc,hA,hR⟩:=aAp h hn (by omega) he hs;exact⟨_,S',_,hc,hA,hR,.create rfl he hs _ _ (aBd h)⟩
  ·obtain⟨S',hc,hA,hR,hi⟩:=aAo h hn (by omega) he hs;exact⟨_,S',_,hc,hA.mono (by omega),hR,.dark (by rw[hre];exact he) hs⟩
 ·exact⟨_,S,D,aAn h hn (by omega) he,h.mono (by omega),bj.refl _ _ _,by rw[←hre]at he ⊢;exact .refuse he⟩
def uq{S:St}{o K:Nat}{D:Dk}(h:At S o K D)(hK:K≤1048560){n:Nm}(hn:n.length≤maxLen)(to:Nm){b:List UInt8}{bv:PV}(hb:cz false bv=some (.int .i64 b.length))(hbv:gI 1 bv=some (aL b)) :
  ∃r S' D',aO T 78 [.ptr o 0,.str n,bv] S=some (.int .i64 r,S')∧At S' o (K+2) D'∧bj o S S' D D'∧fG D 2 n to b r D':=by
 have hre:eJ D 2 n to b=iB D n b:=by simp[eJ]
 by_cases he:iB D n b=0
 ·rcases rE D with hs|hs
  ·obtain⟨f,hlk,_⟩:=uL (Cr he).1;obtain⟨v',S',hc,hA,hR⟩:=aAV h (by omega) hn hb hbv he hs hlk;exact⟨_,S',_,hc,hA.mono (by omega),hR,.append rfl he hs _ _ hlk⟩
  ·exact⟨_,_,_,aAS h (by omega) hn hb he hs,(jC h (by omega)).2.mono (by omega),lI,.dark (by rw[hre];exact he) hs⟩
 ·exact⟨_,S,D,aAR h (by omega) hn hb he,h.mono (by omega),bj.refl _ _ _,by rw[←hre]at he ⊢;exact .refuse he⟩
def aD2{S:St}{o K:Nat}{D:Dk}(h:At S o K D)(hK:K≤1048560){n to:Nm}(hn:n.length≤maxLen)(ht:to.length≤maxLen)(b:List UInt8) :
  ∃r S' D',aO T 82 [.ptr o 0,.str n,.str to] S=some (.int .i64 r,S')∧At S' o (K+2) D'∧bj o S S' D D'∧fG D 3 n to b r D':=by
 have hre:eJ D 3 n to b=fZ D n to:=by simp[eJ]
 by_cases he:fZ D n to=0
 ·rcases rE D with hs|hs
  ·obtain⟨wv',S',hc,hA,hR⟩:=aAv h hn ht (by omega) he hs;exact⟨_,S',_,hc,hA,hR,.rename rfl he hs _⟩
  ·exact⟨_,_,_,aAu h hn ht (by omega) he hs,(jC h (by omega)).2.mono (by omega),lI,.dark (by rw[hre];exact he) hs⟩
 ·exact⟨_,S,D,aAt h hn ht he,h.mono (by omega),bj.refl _ _ _,by rw[←hre]at he ⊢;exact .refuse he⟩
def aD3{S:St}{o K:Nat}{D:Dk}(h:At S o K D)(hK:K≤1048560){n:Nm}(hn:n.length≤maxLen)(to:Nm)(b:List UInt8) :
  ∃r S' D',aO T 83 [.ptr o 0,.str n] S=some (.int .i64 r,S')∧At S' o (K+2) D'∧bj o S S' D D'∧fG D 4 n to b r D':=by
 have hre:eJ D 4 n to b=cP D n:=by simp[eJ]
 by_cases he:cP D n=0
 ·rcases rE D with hs|hs
  ·obtain⟨wv',S',hc,hA,hR⟩:=aAs h hn (by omega) he hs;exact⟨_,S',_,hc,hA,hR,.remove rfl he hs _⟩
  ·exact⟨_,_,_,aAr h hn (by omega) he hs,(jC h (by omega)).2.mono (by omega),lI,.dark (by rw[hre];exact he) hs⟩
 ·exact⟨_,S,D,aAq h hn he,h.mono (by omega),bj.refl _ _ _,by rw[←hre]at he ⊢;exact .refuse he⟩
def Dy{S:St}{o K:Nat}{D:Dk}(h:At S o K D)(hK:K≤1048560){n:Nm}(hn:n.length≤maxLen)(to:Nm)(b:List UInt8) :
  ∃r S' D',aO T 84 [.ptr o 0,.str n] S=some (.int .i64 r,S')∧At S' o (K+2) D'∧bj o S S' D D'∧fG D 5 n to b r D':=by
 have hre:eJ D 5 n to b=cP D n:=by simp[eJ]
 by_cases he:cP D n=0
 ·rcases rE D with hs|hs
  ·obtain⟨f,hlk,_⟩:=uL he;obtain⟨S',hc,hA,hR⟩:=aAz h hn (by omega) he hs hlk;exact⟨_,S',_,hc,hA.mono (by omega),hR,.sync rfl he hs _ hlk⟩
  ·exact⟨_,_,_,aAy h hn (by omega) he hs,(jC h (by omega)).2.mono (by omega),lI,.dark (by rw[hre];exact he) hs⟩
 ·exact⟨_,S,D,aAx h hn he,h.mono (by omega),bj.refl _ _ _,by rw[←hre]at he ⊢;exact .refuse he⟩
def WX{S:St}{o K:Nat}{D:Dk}(h:At S o K D)(hK:K≤1048560)(n to:Nm)(b:List UInt8) :
  ∃r S' D',aO T 79 [.ptr o 0] S=some (.int .i64 r,S')∧At S' o (K+2) D'∧bj o S S' D D'∧fG D 6 n to b r D':=by
 have hre:eJ D 6 n to b=0:=by simp[eJ]
 rcases rE D with hs|hs
 ·obtain⟨S',hc,hA,hR⟩:=aAD h (by omega) hs;exact⟨_,S',_,hc,hA.mono (by omega),hR,.syncdir rfl hs _⟩
 ·exact⟨_,_,_,aAC h (by omega) hs,(jC h (by omega)).2.mono (by omega),lI,.dark hre hs⟩
def aD4{R:RD}{K:Nat}(hR:R.Wf K){name:Nm}:∀l:List RE,0≤bC name l→ik R.files (bC name l)≤dJ R.files l:=by
 intro l
 induction l with
 |nil=>intro h;simp[bC]at h
 |cons x l ih=>
  obtain⟨q,g⟩:=x;intro h;have hbd:=uW hR l;have hbd2:=yb hR g;simp only[bC,dJ]at h ⊢;by_cases hq:(q==name)=true
  ·simp only[hq,if_true];omega
  ·simp only[hq,if_false,cF]at h ⊢;have:=ih h;omega
def aD5{R:RD}{K:Nat}(hR:R.Wf K){kind:Int}{name to:Nm}{b:List UInt8}{lv:PV}(hl:cC 2 lv ((aZ R).map bz))(he:cG R kind name to b=0):(ce (cA R) kind name to b (bC name (aZ R)).toNat lv).Wf (K+2):=by
 refine VU (yX hR) (by rw[DQ];exact hl) fun hk f hf=>?_;subst hk;rw[DS]at hf
 have hn:0≤bC name (aZ R):=by
  by_cases h:0≤bC name (aZ R)
  ·exact h
  ·exfalso;have h':bC name (aZ R)<0:=by omega
   unfold cG at he;by_cases hnm:bg name=false
   ·simp[hnm]at he
   ·have:bg name=true:=by simpa using hnm
    simp[this,h']at he
 have h8:¬(b.length:Int)>R.room-dJ R.files (aZ R):=by
  intro hc;have h':¬bC name (aZ R)<0:=by omega
  unfold cG at he;by_cases hnm:bg name=false
  ·simp[hnm]at he
  ·have:bg name=true:=by simpa using hnm
   have hc':R.room-dJ R.files (aZ R)<(b.length:Int):=hc;simp[this,h',hc']at he
 have h9:=aD4 hR (aZ R) hn;have:ik R.files (bC name (aZ R))=f.b.length:=by simp only[ik,hf]
 have:=hR.rm;omega
def RD.Wf.mono{R:RD}{K K':Nat}(h:R.Wf K)(hk:K≤K'):R.Wf K':=
 {h with fl:=Nat.le_trans h.fl hk,bl:=Nat.le_trans h.bl hk,ct:=⟨h.ct.1,by have:=h.ct.2;omega⟩}
def ur{S:St}{o K:Nat}{D D':Dk}{R:RD}(h:At S o K D)(hr:cQ D R)(hR:R.Wf K)(hK:K≤1048560){k:Int}(hk:1≤k∧k≤6){n to:Nm}{b:List UInt8}{r:Int}(hd:fG D k n to b r D')
  (hn:n.length≤maxLen)(ht:to.length≤maxLen){bv:PV}(hbv:∀S,eF S 1 bv=some (aL b))(hbl:cz false bv=some (.int .i64 b.length))(hbm:b.length≤maxLen)(S0:St) :
  ∃R',aO T 86 [R.v,.int .i64 k,.str n,.str to,bv] S0=some (.tup [R'.v,.int .i64 r],S0)∧cQ D' R'∧R'.Wf (K+2):=by
 obtain⟨lv,l2,hc⟩:=aCb hR hK hk hn ht hbv hbl hbm (DX h hr) (S:=S0);obtain⟨c1,c2,c3,c4,c5,c6⟩:=aCi h hr n to b;obtain⟨hs,hS⟩:=yf hr
 have hch:cG R k n to b=eJ D k n to b:=by
  have:k=1∨k=2∨k=3∨k=4∨k=5∨k=6:=by omega
  rcases this with e|e|e|e|e|e<;>subst e<;>simp[eJ,c1,c2,c3,c4,c5,c6]
 have go:∀r',eJ D k n to b=0→cY D=0→r'=0→aO T 86 [R.v,.int .i64 k,.str n,.str to,bv] S0=some (.tup [(ce (cA R) k n to b (bC n (aZ R)).toNat lv).v,.int .i64 r'],S0)∧(ce (cA R) k n to b (bC n (aZ R)).toNat lv).Wf (K+2):=by
  rintro r' h0 h1 rfl;rw[←hch]at h0;refine⟨?_,aD5 hR l2 h0⟩;rw[hc,h0,hs,h1];simp
 cases hd with
 |refuse he=>
  refine⟨R,?_,hr,hR.mono (by omega)⟩
  rw[hc,hch,if_pos he]
 |dark he hs6=>
  refine⟨cA R,?_,hS,(yX hR).mono (by omega)⟩;rw[hc,hch,he,hs,hs6]
  simp
 |create e he hs0 F wv' hF=>
  obtain⟨g1,g2⟩:=go 0 (by simp[eJ,e,he]) hs0 rfl;subst e;refine⟨_,g1,aCm h hr ?_ hF hs0,g2⟩
  cases hn:bg n with
  |true=>rfl
  |false=>have:=(yg h hr n).2.2.1.2 hn;simp[fD,this]at he
 |append e he hs0 f v' hf=>
  obtain⟨g1,g2⟩:=go 0 (by simp[eJ,e,he]) hs0 rfl;subst e
  exact⟨_,g1,(Vm h hr hf).1,g2⟩
 |rename e he hs0 wv'=>
  obtain⟨g1,g2⟩:=go 0 (by simp[eJ,e,he]) hs0 rfl;subst e;refine⟨_,g1,(DZ h hr).1 ?_,g2⟩
  cases hn:bg to with
  |true=>rfl
  |false=>unfold fZ at he;split at he<;>simp[hn]at he
 |remove e he hs0 wv'=>
  obtain⟨g1,g2⟩:=go 0 (by simp[eJ,e,he]) hs0 rfl;subst e
  exact⟨_,g1,(DZ h hr).2.1,g2⟩
 |sync e he hs0 f hf=>
  obtain⟨g1,g2⟩:=go 0 (by simp[eJ,e,he]) hs0 rfl;subst e
  exact⟨_,g1,(Vm h hr hf).2,g2⟩
 |syncdir e hs0 B=>
  obtain⟨g1,g2⟩:=go 0 (by simp[eJ,e]) hs0 rfl;subst e;exact⟨_,g1,(DZ h hr (wv':=.nils)).2.2 B,g2⟩
structure fO where
 k:Int
 n:Nm
 to:Nm
inductive gN(o:Nat)(b:List UInt8):List fO→Nat→Dk→Int→Dk→Prop where
 |nil (K:Nat) (D:Dk):gN o b [] K D 0 D
 |ok (c:fO) (l:List fO) (K:Nat) (S:St) (D D1 D':Dk) (e:Int) (h:At S o K D) (hd:fG D c.k c.n c.to b 0 D1) (k:gN o b l (K+2) D1 e D'):gN o b (c::l) K D e D'
 |no (c:fO) (l:List fO) (K:Nat) (S:St) (D D1:Dk) (e:Int) (h:At S o K D) (hd:fG D c.k c.n c.to b e D1) (he:e≠0):gN o b (c::l) K D e D1
end Ps
set_option linter.defProp false
namespace Ps
set_option linter.unusedSimpArgs false
set_option linter.unusedVariables false
open Go
def aD6:T.fn 118=some (.code z0):=rfl
def aD7:T.fn 221=some (.code z2):=rfl
def aD8:T.fn 247=some (.code tY):=rfl
def Dz:T.fn 250=some (.code pG):=rfl
def aD9:T.fn 320=some (.code tp):=rfl
def aEa:T.fn 321=some (.code tq):=rfl
def aEb:T.fn 322=some (.code tr):=rfl
def aEc:T.fn 323=some (.code tu):=rfl
def aEd:T.fn 248=some (.code tZ):=rfl
def bc:Nm:=[116,109,112]
def WY:bg bc=true:=by decide
def WZ{S S':St}{sz:Nat}{v:PV}{es:List PV}(h:fi S sz v es)(h':fi S' sz v es){k:Nat}(hk:cU v=some k):S'.tips[k]?=S.tips[k]?:=by
 rcases h with⟨rfl,_⟩|⟨k1,e,rfl,h2⟩
 ·simp[cU]at hk
 ·rcases h' with⟨h3,_⟩|⟨k2,e',h3,h4⟩
  ·cases h3
  ·cases h3;simp only[cU,bU]at hk;subst hk;rw[h2,h4]
def Wa{objs:List (List PV)}{n:Nat}{k:IntKind}{e:Int}:bQ objs n eM (.int k e)=some (.int k e):=zA rfl
def Wb{S S1 S':St}{v:PV}{k:IntKind}{e:Int}(h:ac false S S1 v=(.int k e,S')):ac false S S' (.int k e)=(.int k e,S'):=by
 unfold ac at h ⊢;simp only[cF,if_false,Wa]at h ⊢;split at h
 ·rename_i hs;cases h;rw[Wa]at hs;cases hs
 ·rename_i r' hs;split at h
  ·rename_i hq;simp only[dT]at h;obtain⟨h1,h2⟩:=h;subst h2;simp only[iy,vm,if_true,GO,Nat.min_self];rfl
  ·rename_i hq;split at h
   ·rename_i hf;simp only[dT]at h;obtain⟨h1,h2⟩:=h;subst h2;simp only[GO,Nat.min_self,hq,hf,if_true,if_false,cF]
   ·rename_i hf;cases h;rw[if_neg hq,if_neg hf]
def ph{f:Nat}{c:ai}(hf:T.fn f=some (.code c))(hraw:c.raw=false){args:List PV}{S S':St}{k:IntKind}{e:Int}(h:aO T f args S=some (.int k e,S')) :
  ac false S S' (.int k e)=(.int k e,S'):=by
 obtain⟨n,hn⟩:=mX.1 h
 cases n with
 |zero=>simp[bY]at hn
 |succ n=>
  simp only[bY,hf]at hn;split at hn
  ·split at hn
   ·rename_i fr S1 _;split at hn
    ·rw[hraw]at hn;exact Wb (mH hn)
    ·cases hn
   ·rename_i fr S1 _;split at hn
    ·rw[hraw]at hn;exact Wb (mH hn)
    ·cases hn
   ·cases hn
  ·cases hn
def EA{S S':St}{o K K':Nat}{D D':Dk}(h:At S o K D)(h':At S' o K' D')(hF:bj o S S' D D')(hc:ax D'=ax D→D'=D)(hk:K≤K'){r:PV}(hf:r.free=true)(hz:r.frz=r) :
  ∃S'',ac false S S' r=(r,S'')∧At S'' o K' D'∧bj o S S'' D D':=by
 have hlt:=(aS.1 h.obj).1;unfold ac;simp only[cF,if_false,zA hf,hz];by_cases hq:PV.beqLL (S'.objs.take S.objs.length) S.objs=true
 ·rw[if_pos hq];have he:=oS hq
  have ho:S'.objs[o]?=S.objs[o]?:=by
   rw[←he,dM hlt]
  rw[h.obj,h'.obj]at ho;have hD:=hc (mH ho);subst hD;refine⟨_,rfl,?_,?_⟩
  ·refine(h.tips (fun k hk=>?_)).mono hk;rw[dM (h.owns hk)];rcases hk with hk|⟨f,hf,hk⟩
   ·exact(WZ h.wv h'.wv hk)
   ·exact(WZ (h.file f hf).2.1 (h'.file f hf).2.1 hk)
  ·refine⟨⟨?_,fun k hk hn=>⟨hn,?_⟩⟩,⟨fun i c hi _ _=>hi,fun _ _ _ hn=>hn⟩⟩
   ·simp only[List.length_take];have:=hF.len;omega
   ·simp only;rw[dM hk];exact(hF.keep k hk hn).2
 ·rw[if_neg hq]
  have hfr:lN (S'.objs.take S.objs.length)=false:=by
   cases hx:lN (S'.objs.take S.objs.length)with
   |false=>rfl
   |true=>
    exfalso;have hget:(S'.objs.take S.objs.length)[o]?=some (ax D'):=by rw[dM hlt];exact h'.obj
    have:=AA hx _ (dZ hget);rw[lH]at this;cases this
  rw[if_neg (by rw[hfr];simp)];exact⟨S',rfl,h',hF⟩
def rW{D:Dk}(h:cY D=0):(aX D).done=D.done+1:=by
 unfold cY at h;unfold aX;split at h
 ·cases h
 ·rename_i q;rw[if_neg q]
def zB{D D':Dk}{k:Int}{n to:Nm}{b:List UInt8}{e:Int}(hd:fG D k n to b e D'):(D'.done=D.done∧e≠0∧(ax D'=ax D→D'=D))∨D'.done=D.done+1:=by
 cases hd with
 |refuse hr=>exact .inl ⟨rfl,hr,fun _=>rfl⟩
 |dark hr h6=>
  left;unfold cY at h6;split at h6
  ·rename_i q;have e:aX D = {D with dark:=true}:=by unfold aX;rw[if_pos q]
   rw[e];refine⟨rfl,by decide,fun hc=>?_⟩
   have hd:D.dark=true:=by
    simp only[ax,kW,PV.bool.injEq]at hc;exact hc.2.2.2.2.2.2.1.symm
   rw[←hd]
  ·cases h6
 |create _ _ h0 F=>right;exact rW (D:=db D F) h0
 |append _ _ h0=>right;exact rW h0
 |rename _ _ h0=>right;exact rW h0
 |remove _ _ h0=>right;exact rW h0
 |sync _ _ h0=>right;exact rW h0
 |syncdir _ h0=>right;exact rW h0
def EB{D D':Dk}(h:ax D'=ax D):D'.done=D.done:=by
 simp only[ax,kW,PV.int.injEq]at h;exact h.2.2.2.2.2.1.2
def rX{o:Nat}{b:List UInt8}{l:List fO}{K:Nat}{D D':Dk}{e:Int}(h:gN o b l K D e D'):D.done≤D'.done∧(ax D'=ax D→D'=D):=by
 induction h with
 |nil=>exact⟨AV _,fun _=>rfl⟩
 |ok c l K S D D1 D' e hA hd k ih=>
  rcases zB hd with⟨h1,h2,h3⟩|h1
  ·exact absurd rfl h2
  ·refine⟨by have:=ih.1;omega,fun hc=>?_⟩;have:=EB hc;have:=ih.1
   omega
 |no c l K S D D1 e hA hd he=>
  rcases zB hd with⟨h1,h2,h3⟩|h1
  ·exact⟨by omega,h3⟩
  ·exact⟨by omega,fun hc=>by have:=EB hc;omega⟩
inductive pi:List PV→St→Int→St→Prop where
 |nil (S:St):pi [] S 0 S
 |ok (f:PV) (fs:List PV) (S S1 S2:St) (e:Int) (h:qK T .std f [] S=some (.int .i64 0,S1)) (k:pi fs S1 e S2):pi (f::fs) S e S2
 |no (f:PV) (fs:List PV) (S S1:St) (e:Int) (h:qK T .std f [] S=some (.int .i64 e,S1)) (he:e≠0):pi (f::fs) S e S1
def aEe{fs:List PV}{v:PV}(hv:bT 1 v fs)(h1:∀f∈fs,f.cells=[f])(hl:fs.length≤1000){K:List Kt}{Q:Fr→St→Prop}{S':St}{e:Int}:∀(rest pre:List PV),fs=pre++rest→∀(fr:Fr) (S:St),pi rest S e S'→fr 6=v→fr 7=.int .i64 fs.length→fr 8=.int .i64 (pre.length:Int) →
  (e=0→∀fr',Ok (aJ T K fr' S') Q)→(∀fr',fr' 2=.int .i64 e→Q fr' S')→Ok (aJ T (.lp xq::.blk 0::K) fr S) Q:=by
 intro rest
 induction rest with
 |nil=>
  intro pre hp fr S hr h6 h7 h8 k _;rw[cI]at hp;subst hp;cases hr;rw[af];simp -implicitDefEqProofs [h7,h8]
  exact k rfl _
 |cons f rest ih=>
  intro pre hp fr S hr h6 h7 h8 k kE;have hi:pre.length<fs.length:=by rw[hp];simp
  have hg:=hv.get pre.length hi .i64;have hgx:fs[pre.length]'hi=f:=by simp[hp]
  rw[hgx,h1 f (by rw[hp];simp)]at hg;have hw:=dR (a:=pre.length) (by omega)
  cases hr with
  |ok _ _ _ S1 _ _ hc hr=>
   have hL:∀fr',fr' 6=v→fr' 7=.int .i64 fs.length→fr' 8=.int .i64 ((pre.length+1:Nat):Int)→Ok (aJ T (.lp xq::.blk 0::K) fr' S1) Q:=by
    intro fr' g6 g7 g8;exact ih (pre++[f]) (by simp[hp]) fr' S1 hr g6 g7 (by simpa using g8) k kE
   clear k ih kE;rw[af];simp -implicitDefEqProofs [h6,h7,h8,hi,hg,q1,hc,-qL,-AQ]
   exact hL _ (by simp[h6]) (by simp[h7]) (by simp[hw])
  |no _ _ _ _ _ hc he=>
   have heb:(e != 0)=true:=by simpa using he
   clear k ih;rw[af];simp -implicitDefEqProofs [h6,h7,h8,hi,hg,q1,hc,heb,-qL,-AQ];exact kE _ (by simp)
def aEf{fs:List PV}{v:PV}(hv:bT 1 v fs)(h1:∀f∈fs,f.cells=[f])(hl:fs.length≤1000){S S' S'':St}{e:Int}(hr:pi fs S e S')(hfin:ac false S S' (.int .i64 e)=(.int .i64 e,S'')):aO T 247 [v] S=some (.int .i64 e,S''):=by
 refine aW aD8 rfl ?_;simp -implicitDefEqProofs [tY,hv.len];refine aEe hv h1 hl fs [] rfl _ S hr (by simp) (by simp) (by simp) (fun he fr'=>?_) (fun fr' h1=>?_)
 ·subst he;simp -implicitDefEqProofs [hfin]
 ·simp -implicitDefEqProofs [h1,hfin]
def aEg{S S':St}{b o:Nat}{e:Int}(hb:S.objs[b]?=some [.ptr o 0])(hc:aO T 77 [.ptr o 0,.str bc] S=some (.int .i64 e,S')):aO T 320 [.ptr b 0] S=some (.int .i64 e,S'):=by
 have hf:=ph rF rfl hc;simp only[bc]at hc;refine aW aD9 rfl ?_;simp -implicitDefEqProofs [tp,aU hb,q1,hc,hf]
def aEh{S S':St}{b b2 o:Nat}{bv:PV}{e:Int}(hb:S.objs[b]?=some [.ptr o 0])(hb2:S.objs[b2]?=some [bv])(hc:aO T 78 [.ptr o 0,.str bc,bv] S=some (.int .i64 e,S')):aO T 321 [.ptr b 0,.ptr b2 0] S=some (.int .i64 e,S'):=by
 have hf:=ph rH rfl hc;simp only[bc]at hc;refine aW aEa rfl ?_;simp -implicitDefEqProofs [tq,aU hb,aU hb2,q1,hc,hf]
def aEi{S S':St}{b o:Nat}{e:Int}(hb:S.objs[b]?=some [.ptr o 0])(hc:aO T 84 [.ptr o 0,.str bc] S=some (.int .i64 e,S')):aO T 322 [.ptr b 0] S=some (.int .i64 e,S'):=by
 have hf:=ph uK rfl hc;simp only[bc]at hc;refine aW aEb rfl ?_;simp -implicitDefEqProofs [tr,aU hb,q1,hc,hf]
def aEj{S S':St}{b b2 o:Nat}{n:Nm}{e:Int}(hb:S.objs[b]?=some [.ptr o 0])(hb2:S.objs[b2]?=some [.str n])(hc:aO T 82 [.ptr o 0,.str bc,.str n] S=some (.int .i64 e,S')):aO T 323 [.ptr b 0,.ptr b2 0] S=some (.int .i64 e,S'):=by
 have hf:=ph yK rfl hc;simp only[bc]at hc;refine aW aEc rfl ?_;simp -implicitDefEqProofs [tu,aU hb,aU hb2,q1,hc,hf]
def aEk{S S':St}{b b2 o:Nat}{n:Nm}{e:Int}(hb:S.objs[b]?=some [.ptr o 0])(hb2:S.objs[b2]?=some [.str n])(hc:aO T 77 [.ptr o 0,.str n] S=some (.int .i64 e,S')):aO T 248 [.ptr b 0,.ptr b2 0] S=some (.int .i64 e,S'):=by
 have hf:=ph rF rfl hc;refine aW aEd rfl ?_;simp -implicitDefEqProofs [tZ,aU hb,aU hb2,q1,hc,hf]
def la(o:Nat)(cl:List (Nat×List PV))(S:St)(D:Dk):Prop:=∀x∈cl,S.objs[x.1]?=some x.2∧x.1≠o∧¬iN D x.1
def la.fra{o:Nat}{cl:List (Nat×List PV)}{S S':St}{D D':Dk}(h:la o cl S D)(f:bj o S S' D D'):la o cl S' D':=fun x hx=>by
 obtain⟨h1,h2,h3⟩:=h x hx;exact⟨f.o.obj _ _ h1 h2 h3,h2,f.o.own _ (aS.1 h1).1 h2 h3⟩
def aEl(o:Nat)(b:List UInt8)(cl:List (Nat×List PV))(f:PV)(c:fO):Prop:=
 ∀(S:St) (K:Nat) (D:Dk),At S o K D→K≤1048000→la o cl S D→∃r S' D',qK T .std f [] S=some (.int .i64 r,S')∧At S' o (K+2) D'∧bj o S S' D D'∧fG D c.k c.n c.to b r D'
inductive pj(o:Nat)(b:List UInt8)(cl:List (Nat×List PV)):List PV→List fO→Prop where
 |nil:pj o b cl [] []
 |cons (f:PV) (c:fO) (fs:List PV) (cs:List fO) (h:aEl o b cl f c) (k:pj o b cl fs cs):pj o b cl (f::fs) (c::cs)
def aEm{o:Nat}{b:List UInt8}{cl:List (Nat×List PV)}{fs:List PV}{cs:List fO}(hg:pj o b cl fs cs):∀{S:St} {K:Nat} {D:Dk},At S o K D→K+2*cs.length≤1048000→la o cl S D →
  ∃e S' D',pi fs S e S'∧At S' o (K+2*cs.length) D'∧bj o S S' D D'∧gN o b cs K D e D':=by
 induction hg with
 |nil=>intro S K D h _ _;exact⟨0,S,D,.nil S,h,bj.refl _ _ _,.nil K D⟩
 |cons f c fs cs hf _ ih=>
  intro S K D h hK hc;simp only[bV]at hK ⊢;obtain⟨r,S1,D1,q1,q2,q3,q4⟩:=hf S K D h (by omega) hc;by_cases hr:r=0
  ·subst hr;obtain⟨e,S',D',p1,p2,p3,p4⟩:=ih q2 (by omega) (hc.fra q3);exact⟨e,S',D',.ok _ _ _ _ _ _ q1 p1,p2.mono (by omega),q3.trans p3,.ok _ _ _ S _ _ _ _ h q4 p4⟩
  ·exact⟨r,S1,D1,.no _ _ _ _ _ q1 hr,q2.mono (by omega),q3,.no _ _ _ S _ _ _ h q4 hr⟩
end Ps
set_option linter.defProp false
namespace Ps
set_option linter.unusedSimpArgs false
set_option linter.unusedVariables false
open Go
def aEn:T.fn 251=some (.code z64):=rfl
def kM(c:fO):PV:=.agg [.int .i64 c.k,.str c.n,.str c.to,.int .i64 0]
structure fO.Wf(c:fO):Prop where
 k:1≤c.k∧c.k≤6
 n:c.n.length≤maxLen
 t:c.to.length≤maxLen
def dE:List PV:=[.int .i64 0,.nils,.nils,.nils,.int .i64 0,.bool false,.int .i64 0]
def aEo{o:Nat}{b:List UInt8}{bv:PV}(hbv:∀S,eF S 1 bv=some (aL b))(hbl:cz false bv=some (.int .i64 b.length))(hbm:b.length≤maxLen)(hbf:bv.free=true)(hbz:bv.frz=bv)
  {lv:PV}{all:List fO}(hv:bT 4 lv (all.map kM))(hall:∀c∈all,c.Wf)(hl:all.length≤1000){S0:St}{o1 o2:Nat}(h12:o1≠o2){KK:List Kt}{Q:Fr→St→Prop}{cs:List fO}{K:Nat}{D D':Dk}{e:Int}(hrun:gN o b cs K D e D') :
  ∀(pre:List fO) (R:RD) (fr:Fr) (S:St),all=pre++cs→cQ D R→R.Wf K→K+2*cs.length≤1048000→fr 1=lv→fr 2=bv→fr 3=.ptr o1 0→fr 6=.ptr o2 0→fr 8=.int .i64 (pre.length:Int) →
  S.objs[o1]?=some R.c→S.objs[o2]?=some dE→aP S0 S→S0.objs.length≤o1→S0.objs.length≤o2 →
  (∀fr' S' R',cQ D' R'→R'.Wf (K+2*cs.length)→e=0→fr' 3=.ptr o1 0→fr' 6=.ptr o2 0→S'.objs[o1]?=some R'.c→S'.objs[o2]?=some dE→aP S0 S'→Ok (aJ T KK fr' S') Q) →
  (∀fr' S' R',cQ D' R'→R'.Wf (K+2*cs.length)→fr' 6=.ptr o2 0→fr' 7=.int .i64 e→S'.objs[o2]?=some R'.c→aP S0 S'→Q fr' S') →
  Ok (aJ T (.lp ta::.blk 0::KK) fr S) Q:=by
 have hlen:=hv.len;rw[List.length_map]at hlen
 induction hrun with
 |nil K D=>
  intro pre R fr S hp hr hR hK f1 f2 f3 f6 f8 q1 q2 hg g1 g2 k kE;rw[cI]at hp;subst hp;rw[af];simp -implicitDefEqProofs [f1,f8,hlen]
  exact k _ _ R hr (by simpa using hR) rfl (by simp[f3]) (by simp[f6]) q1 q2 hg
 |ok c l K S1 D D1 D' e hA hd hrun ih=>
  intro pre R fr S hp hr hR hK f1 f2 f3 f6 f8 q1 q2 hg g1 g2 k kE;simp only[bV]at hK k kE;have hi:pre.length<all.length:=by rw[hp];simp
  have hwc:=hall c (by rw[hp];simp);have hgt:=hv.get pre.length (by simpa using hi) .i64;have hgx:(all.map kM)[pre.length]'(by simpa using hi)=kM c:=by simp[hp]
  rw[hgx]at hgt;obtain⟨R',hc,hr',hR'⟩:=ur hA hr hR (by omega) hwc.k hd hwc.n hwc.t hbv hbl hbm bk;have hp86:=iH hc (by simp[PV.free,PV.freeL,hR'.free]) (by simp[PV.frz,PV.frzL,hR'.frz]);have hw:=dR (a:=pre.length) (by omega);have w1:=hR.fs.free;have w2:=hR.bs.free;have w3:=hR.ws.free;have w4:=hR.fs.frz;have w5:=hR.bs.frz;have w6:=hR.ws.frz;have p1:=hR'.fs.one.1;have p2:=hR'.bs.one.1;have p3:=hR'.ws.one.1;have hlt1:=(aS.1 q1).1;have hlt2:=(aS.1 q2).1
  have hL:∀(fr':Fr) (S':St),fr' 1=lv→fr' 2=bv→fr' 3=.ptr o1 0→fr' 6=.ptr o2 0→fr' 8=.int .i64 ((pre.length:Int)+1)→S'=⟨(S.objs++[R'.c]).set o1 R'.c,S.tips⟩→Ok (aJ T (.lp ta::.blk 0::KK) fr' S') Q:=by
   rintro fr' S' z1 z2 z3 z6 z8 rfl
   refine ih (pre++[c]) R' fr' _ (by simp[hp]) hr' hR' (by omega) z1 z2 z3 z6 (by simpa using z8) ?_ ?_ ?_ g1 g2 (fun fr' S' R' a b=>k fr' S' R' a (by rw[show K+2*(l.length+1)=K+2+2*l.length by omega];exact b))
    (fun fr' S' R' a b=>kE fr' S' R' a (by rw[show K+2*(l.length+1)=K+2+2*l.length by omega];exact b))
   ·simp only;rw[fY (by simp;omega)]
   ·simp only;rw[ak h12,bP hlt2];exact q2
   ·exact(hg.objs _).set g1
  clear k kE ih;have qa:∀x,(S.objs++x)[o1]?=some R.c:=fun x=>by rw[bP hlt1];exact q1
  simp only[RD.v,RD.c]at hp86 hL q1 qa;simp only[kM]at hgt;rw[af];simp -implicitDefEqProofs [f1,f2,f3,f6,f8,hlen,hi,hgt,q1,aU q1,ah,rP,hbf,hbz,w1,w2,w3,w4,w5,w6,hp86,aI,aR,p1,p2,p3,qa]
  exact hL _ _ (by simp[f1]) (by simp[f2]) (by simp[f3]) (by simp[f6]) (by simp[hw]) (by first|rfl|simp)
 |no c l K S1 D D1 e hA hd he=>
  intro pre R fr S hp hr hR hK f1 f2 f3 f6 f8 q1 q2 hg g1 g2 k kE;simp only[bV]at hK k kE;have hi:pre.length<all.length:=by rw[hp];simp
  have hwc:=hall c (by rw[hp];simp);have hgt:=hv.get pre.length (by simpa using hi) .i64;have hgx:(all.map kM)[pre.length]'(by simpa using hi)=kM c:=by simp[hp]
  rw[hgx]at hgt;obtain⟨R',hc,hr',hR'⟩:=ur hA hr hR (by omega) hwc.k hd hwc.n hwc.t hbv hbl hbm bk;have hp86:=iH hc (by simp[PV.free,PV.freeL,hR'.free]) (by simp[PV.frz,PV.frzL,hR'.frz]);have w1:=hR.fs.free;have w2:=hR.bs.free;have w3:=hR.ws.free;have w4:=hR.fs.frz;have w5:=hR.bs.frz;have w6:=hR.ws.frz;have p1:=hR'.fs.one.1;have p2:=hR'.bs.one.1;have p3:=hR'.ws.one.1;have hlt1:=(aS.1 q1).1;have hlt2:=(aS.1 q2).1;have heb:(e != 0)=true:=by simpa using he
  have hL:∀(fr':Fr) (S':St),fr' 6=.ptr o2 0→fr' 7=.int .i64 e→S'=⟨((S.objs++[R'.c]).set o1 R'.c).set o2 R'.c,S.tips⟩→Q fr' S':=by
   rintro fr' S' z6 z7 rfl;refine kE fr' _ R' hr' (hR'.mono (by omega)) z6 z7 ?_ ?_
   ·simp only;rw[fY (by simp;omega)]
   ·exact((hg.objs _).set g1).set g2
  clear k kE;have qa:∀x,(S.objs++x)[o1]?=some R.c:=fun x=>by rw[bP hlt1];exact q1
  have qb:∀x y,((S.objs++x).set o1 y)[o2]?=some dE:=fun x y=>by rw[ak h12,bP hlt2];exact q2
  have qc:∀x y (t:List (Nat×Nat)),cS ⟨(S.objs++x).set o1 y,t⟩ true 7 (.ptr o1 0)=ae true 7 y:=fun x y t=>by
   rw[aU (cs:=y) (by simp only;rw[fY (by simp;omega)])];rfl
  simp only[RD.v,RD.c]at hp86 hL q1 qa;simp only[kM]at hgt;simp only[dE]at qb;rw[af];simp -implicitDefEqProofs [f1,f2,f3,f6,f8,hlen,hi,hgt,q1,aU q1,ah,rP,hbf,hbz,w1,w2,w3,w4,w5,w6,hp86,aI,aR,p1,p2,p3,heb,qa,qb,qc];exact hL _ _ (by simp[f6]) (by simp) (by first|rfl|simp)
end Ps
set_option linter.defProp false
namespace Ps
set_option linter.unusedSimpArgs false
set_option linter.unusedVariables false
open Go
def aEA{rs:List mS}{raw:Bool}{S S1 S2:St}{r:PV}{fr:Fr}{P:PV→St→Prop}(h:gM rs raw S r S2 fr S1)(hP:P r S2) :
  ∃vs,eN fr S1 rs=some vs∧P (ac raw S S1 (iF vs)).1 (ac raw S S1 (iF vs)).2:=by
 obtain⟨vs,h1,h2⟩:=h;exact⟨vs,h1,by rw[h2];exact hP⟩
def EF(D':Dk)(K':Nat)(S:St)(e:Int)(r:PV)(S2:St):Prop:=S2=S∧∃R',r=.tup [R'.v,.int .i64 e]∧cQ D' R'∧R'.Wf K'
def EG{o:Nat}{b:List UInt8}{bv:PV}(hbv:∀S,eF S 1 bv=some (aL b))(hbl:cz false bv=some (.int .i64 b.length))(hbm:b.length≤maxLen)(hbf:bv.free=true)(hbz:bv.frz=bv)
  {lv:PV}{cs:List fO}(hv:bT 4 lv (cs.map kM))(hall:∀c∈cs,c.Wf)(hl:cs.length≤1000){K:Nat}{D D':Dk}{e:Int}(hrun:gN o b cs K D e D'){R:RD}(hr:cQ D R)(hR:R.Wf K)(hK:K+2*cs.length≤1048000)(S:St) :
  ∃R',aO T 251 [R.v,lv,bv] S=some (.tup [R'.v,.int .i64 e],S)∧cQ D' R'∧R'.Wf (K+2*cs.length):=by
 have key:=eB (T:=T) (f:=251) (c:=z64) aEn (args:=[R.v,lv,bv]) (S:=S) rfl
  (R:=EF D' (K+2*cs.length) S e) ?_
 ·obtain⟨r,S2,h1,rfl,R',rfl,h2⟩:=key;exact⟨R',h1,h2⟩
 have o1:=hR.fs.one.1;have o2:=hR.bs.one.1;have o3:=hR.ws.one.1
 have hL:∀(fr:Fr) (S1:St) (KK:List Kt) (Q:Fr→St→Prop),fr 1=lv→fr 2=bv→fr 3=.ptr S.objs.length 0→fr 6=.ptr (S.objs.length+1) 0→fr 8=.int .i64 0→S1=⟨S.objs++[R.c,dE],S.tips⟩ →
   (∀fr' S' R',cQ D' R'→R'.Wf (K+2*cs.length)→e=0→fr' 3=.ptr S.objs.length 0→fr' 6=.ptr (S.objs.length+1) 0→S'.objs[S.objs.length]?=some R'.c→S'.objs[S.objs.length+1]?=some dE→aP S S'→Ok (aJ T KK fr' S') Q) →
   (∀fr' S' R',cQ D' R'→R'.Wf (K+2*cs.length)→fr' 6=.ptr (S.objs.length+1) 0→fr' 7=.int .i64 e→S'.objs[S.objs.length+1]?=some R'.c→aP S S'→Q fr' S')→Ok (aJ T (.lp ta::.blk 0::KK) fr S1) Q:=by
  rintro fr S1 KK Q h1 h2 h3 h6 h8 rfl k kE;exact aEo hbv hbl hbm hbf hbz hv hall hl (S0:=S) (o1:=S.objs.length) (o2:=S.objs.length+1) (by omega) hrun [] R fr _ rfl hr hR hK h1 h2 h3 h6 h8 (by simp) (by simp) ((aP.refl S).objs _) (aj _) (by omega) k kE
 simp only[RD.c,dE]at hL;have fin:∀(S':St) (R':RD),aP S S'→R'.Wf (K+2*cs.length)→ac false S S' (.tup [R'.v,.int .i64 e])=(.tup [R'.v,.int .i64 e],S):=fun S' R' hg hw=>gK hw hg e;simp -implicitDefEqProofs [z64,RD.v,RD.c,aI,o1,o2,o3];refine hL _ _ _ _ (by simp) (by simp) (by simp) (by simp) (by simp) rfl ?_ ?_
 ·intro fr' S' R' hr' hR' he g3 g6 q1 q2 hg;subst he;have p1:=hR'.fs.one.1;have p2:=hR'.bs.one.1;have p3:=hR'.ws.one.1;have hlt2:=(aS.1 q2).1;have hfin:=fin ⟨S'.objs.set (S.objs.length+1) R'.c,S'.tips⟩ R' (hg.set (by omega)) hR'
  have hq3:cS ⟨S'.objs.set (S.objs.length+1) R'.c,S'.tips⟩ true 7 (.ptr (S.objs.length+1) 0)=some R'.v:=by
   rw[aU (cs:=R'.c) (by simp only;rw[fY hlt2])];rfl
  simp only[RD.v,RD.c]at hfin hq3 q1;simp -implicitDefEqProofs [g3,g6,aU q1,ah,aI,q2,aR,p1,p2,p3];refine⟨[R'.v,.int .i64 0],by rw[fY hlt2];rfl,?_⟩;show EF D' (K+2*cs.length) S 0 (ac false S _ (.tup [R'.v,.int .i64 0])).1 (ac false S _ (.tup [R'.v,.int .i64 0])).2;simp only[RD.v,RD.c];rw[hfin];exact⟨rfl,R',rfl,hr',hR'⟩
 ·intro fr' S' R' hr' hR' g6 g7 q2 hg;have hfin:=fin S' R' hg hR';have hq3:cS S' true 7 (.ptr (S.objs.length+1) 0)=some R'.v:=by rw[aU q2];rfl
  exact aEA (P:=EF D' (K+2*cs.length) S e) (fM (by rw[g6];exact hq3) g7 hfin) ⟨rfl,R',rfl,hr',hR'⟩
def aEB{l:List Nm}{v:PV}{n:Nm}(hv:bT 1 v (l.map .str))(hl:l.length≤1048576){S:St}{K:List Kt}{Q:Fr→St→Prop}:∀(rest pre:List Nm),l=pre++rest→∀fr:Fr,n∉pre→fr 0=v→fr 1=.str n→fr 7=.int .i64 l.length→fr 8=.int .i64 (pre.length:Int) →
  (n∉l→∀fr',Ok (aJ T K fr' S) Q)→(n∈l→∀fr' (j:Nat),fr' 4=.int .i64 (j:Int)→Q fr' S)→Ok (aJ T (.lp wP::.blk 0::K) fr S) Q:=by
 intro rest
 induction rest with
 |nil=>
  intro pre hp fr hn f0 f1 f7 f8 k _;rw[cI]at hp;subst hp;rw[af];simp -implicitDefEqProofs [f7,f8]
  exact k hn _
 |cons x rest ih=>
  intro pre hp fr hn f0 f1 f7 f8 k kE;have hi:pre.length<l.length:=by rw[hp];simp
  have hg:=hv.get pre.length (by simpa using hi) .i64;have hgx:(l.map PV.str)[pre.length]'(by simpa using hi)=.str x:=by simp[hp]
  rw[hgx]at hg;have hg:dQ 1 v (.int .i64 (pre.length:Int))=some (.ref [.str x]):=hg;have hw:=dR (a:=pre.length) (by omega);by_cases hx:n=x
  ·have hm:n∈l:=by rw[hp];simp[hx]
   have hL:∀fr' (j:Nat),fr' 4=.int .i64 (j:Int)→Q fr' S:=kE hm;clear k kE ih;rw[af];simp -implicitDefEqProofs [f0,f1,f7,f8,hi,hg,q1,hx];exact hL _ pre.length (by simp)
  ·have hL:∀fr',fr' 0=v→fr' 1=.str n→fr' 7=.int .i64 l.length→fr' 8=.int .i64 ((pre.length+1:Nat):Int)→Ok (aJ T (.lp wP::.blk 0::K) fr' S) Q:=by
    intro fr' g0 g1 g7 g8;exact ih (pre++[x]) (by simp[hp]) fr' (by simp[hn,hx]) g0 g1 g7 (by simpa using g8) k kE
   have hb:(n==x)=false:=by simpa using hx
   clear k kE ih;rw[af];simp -implicitDefEqProofs [f0,f1,f7,f8,hi,hg,q1,hb];exact hL _ (by simp[f0]) (by simp[f1]) (by simp[f7]) (by simp[hw])
def aEC{l:List Nm}{v:PV}{n:Nm}(hv:bT 1 v (l.map .str))(hl:l.length≤1048576)(S:St):aO T 118 [v,.str n] S=some (.bool (decide (n∈l)),S):=by
 have hlen:=hv.len;rw[List.length_map]at hlen;have key:=eB (T:=T) (f:=221) (c:=z2) aD7 (args:=[v,.str n]) (S:=S) rfl (R:=fun r S2=>S2=S∧∃j:Int,r=.int .i64 j∧(decide (0≤j)=decide (n∈l))) ?_
 ·obtain⟨r,S2,h1,rfl,j,rfl,h2⟩:=key;refine aW aD6 rfl ?_;simp -implicitDefEqProofs [z0,h1];simpa using h2
 simp -implicitDefEqProofs [z2,hlen];refine aEB hv hl (n:=n) l [] rfl _ (by simp) (by simp) (by simp) (by simp) (by simp) (fun hn fr'=>?_) (fun hn fr' j h4=>?_)
 ·simp -implicitDefEqProofs;simp[hn]
 ·simp -implicitDefEqProofs [h4];simp[hn]
end Ps
set_option linter.defProp false
namespace Ps
set_option linter.unusedSimpArgs false
set_option linter.unusedVariables false
open Go
def bj.grow{o:Nat}{S:St}{D:Dk}(x:List (List PV))(y:List (Nat×Nat)):bj o S ⟨S.objs++x,S.tips++y⟩ D D:=
 ⟨⟨by simp,fun k hk h=>⟨h,bP hk⟩⟩,⟨fun i c hc _ _=>by simp only;rw[bP (aS.1 hc).1];exact hc,fun _ _ _ h=>h⟩⟩
def At.grown{S:St}{o K:Nat}{D:Dk}(h:At S o K D)(x:List (List PV))(y:List (Nat×Nat)):At ⟨S.objs++x,S.tips++y⟩ o K D:=
 h.grow (fun i c hc=>by simp only;rw[bP (aS.1 hc).1];exact hc) (fun i c hc=>by simp only;rw[bP (aS.1 hc).1];exact hc)
def At.fresh{S:St}{o K:Nat}{D:Dk}(h:At S o K D){i:Nat}(hi:S.objs.length≤i):i≠o∧¬iN D i:=by
 have hlt:=h.lt;refine⟨by omega,?_⟩;rintro(q|q|q)
 ·omega
 ·omega
 ·have:=hlt.2.2.2 _ q;omega
def kN(name:Nm):List fO:=[⟨1,bc,[]⟩,⟨2,bc,[]⟩,⟨5,bc,[]⟩,⟨3,bc,name⟩,⟨6,[],[]⟩]
def pk(i0 i1 i2 o:Nat):List PV:=[.fn 320 [.ptr i0 0],.fn 321 [.ptr i0 0,.ptr i2 0],.fn 322 [.ptr i0 0],.fn 323 [.ptr i0 0,.ptr i1 0],.bfn 79 [.ptr o 0]]
def lc:bc.length≤maxLen:=by decide
def aED{o i0 i1 i2:Nat}{name:Nm}(hn:name.length≤maxLen){b:List UInt8}{bv:PV}(hb:cz false bv=some (.int .i64 b.length))(hbv:gI 1 bv=some (aL b)) :
  pj o b [(i0,[.ptr o 0]),(i1,[.str name]),(i2,[bv])] (pk i0 i1 i2 o) (kN name):=by
 have g0:∀{S:St} {D:Dk},la o [(i0,[.ptr o 0]),(i1,[.str name]),(i2,[bv])] S D→S.objs[i0]?=some [.ptr o 0]∧S.objs[i1]?=some [.str name]∧S.objs[i2]?=some [bv]:=fun h=>
  ⟨(h (i0,[.ptr o 0]) (by simp)).1,(h (i1,[.str name]) (by simp)).1,(h (i2,[bv]) (by simp)).1⟩
 refine .cons _ _ _ _ ?_ (.cons _ _ _ _ ?_ (.cons _ _ _ _ ?_ (.cons _ _ _ _ ?_ (.cons _ _ _ _ ?_ .nil))))
 ·intro S K D h hK hc;obtain⟨c0,c1,c2⟩:=g0 hc;obtain⟨r,S',D',q1,q2⟩:=WW h (by omega) lc [] b;exact⟨r,S',D',by simp only[qL,qN];exact aEg c0 q1,q2⟩
 ·intro S K D h hK hc;obtain⟨c0,c1,c2⟩:=g0 hc;obtain⟨r,S',D',q1,q2⟩:=uq h (by omega) lc [] hb hbv;exact⟨r,S',D',by simp only[qL,qN];exact aEh c0 c2 q1,q2⟩
 ·intro S K D h hK hc;obtain⟨c0,c1,c2⟩:=g0 hc;obtain⟨r,S',D',q1,q2⟩:=Dy h (by omega) lc [] b;exact⟨r,S',D',by simp only[qL,qN];exact aEi c0 q1,q2⟩
 ·intro S K D h hK hc;obtain⟨c0,c1,c2⟩:=g0 hc;obtain⟨r,S',D',q1,q2⟩:=aD2 h (by omega) lc hn b;exact⟨r,S',D',by simp only[qL,qN];exact aEj c0 c1 q1,q2⟩
 ·intro S K D h hK hc;obtain⟨r,S',D',q1,q2⟩:=WX h (by omega) [] [] b;exact⟨r,S',D',by simp only[AQ,qN];exact q1,q2⟩
def aEE{fs:List PV}{k:Nat}(h:∀f∈fs,f.cells=[f]):bT 1 (.sl (some (k,fs.length)) fs []) fs:=oG fun e he=>by rw[h e he];rfl
def EH{o:Nat}{b:List UInt8}{cl:List (Nat×List PV)}{fs:List PV}{cs:List fO}(hg:pj o b cl fs cs)(hc1:∀f∈fs,f.cells=[f])(hl:fs.length≤1000){S:St}{K:Nat}{D:Dk}(h:At S o K D)(hK:K+2*cs.length≤1048000)(hc:la o cl S D) :
  ∃e S' D',aO T 247 [.sl (some (S.tips.length,fs.length)) fs []] ⟨S.objs,S.tips++[(fs.length,1)]⟩=some (.int .i64 e,S')∧At S' o (K+2*cs.length) D'∧bj o S S' D D'∧gN o b cs K D e D':=by
 have h1:At ⟨S.objs,S.tips++[(fs.length,1)]⟩ o K D:=h.more _;have hF1:bj o S ⟨S.objs,S.tips++[(fs.length,1)]⟩ D D:=by have:=bj.grow (o:=o) (S:=S) (D:=D) [] [(fs.length,1)];rw[cI]at this;exact this
 obtain⟨e,S',D',q1,q2,q3,q4⟩:=aEm hg h1 hK (hc.fra hF1);obtain⟨S'',p1,p2,p3⟩:=EA (r:=.int .i64 e) h1 q2 q3 (rX q4).2 (by omega) rfl rfl;exact⟨e,S'',D',aEf (aEE hc1) hc1 hl q1 p1,p2,hF1.trans p3,q4⟩
inductive ki(o:Nat)(b:List UInt8)(name:Nm)(K:Nat)(D:Dk):Int→Dk→Prop where
 |no (hc:bc∉gU D) (e:Int) (D':Dk) (h:gN o b (kN name) K D e D'):ki o b name K D e D'
 |err (hc:bc∈gU D) (e:Int) (D':Dk) (h:gN o [] [⟨4,bc,[]⟩] K D e D') (he:e≠0):ki o b name K D e D'
 |ok (hc:bc∈gU D) (D1:Dk) (e:Int) (D':Dk) (h:gN o [] [⟨4,bc,[]⟩] K D 0 D1) (k:gN o b (kN name) (K+2) D1 e D'):ki o b name K D e D'
def Wk{o:Nat}{b:List UInt8}{name:Nm}{K:Nat}{D D':Dk}{e:Int}(h:ki o b name K D e D'):D.done≤D'.done∧(ax D'=ax D→D'=D):=by
 cases h with
 |no _ _ _ h=>exact rX h
 |err _ _ _ h=>exact rX h
 |ok _ D1 _ _ h k=>
  have h1:=rX h;have h2:=rX k;refine⟨by omega,fun hc=>?_⟩;have hd:=EB hc
  cases h with
  |ok _ _ _ S _ D2 _ _ _ hd2 hk=>
   cases hk;rcases zB hd2 with⟨_,q,_⟩|q
   ·exact absurd rfl q
   ·omega
  |no _ _ _ _ _ _ _ _ _ he=>exact absurd rfl he
def aEF{S:St}{o K:Nat}{D:Dk}(h:At S o K D)(hK:K≤1000000){name:Nm}(hn:name.length≤maxLen){b:List UInt8}{bv:PV}(hbv:bG 1 bv (aL b))(hb1:bv.cells=[bv])(hb2:bv.one=true) :
  ∃e S' D',aO T 250 [.ptr o 0,.str name,bv] S=some (.int .i64 e,S')∧At S' o (K+12) D'∧bj o S S' D D'∧ki o b name K D e D':=by
 have hlen:=hbv.len;rw[bO]at hlen;obtain⟨S1,hS1⟩:∃S1:St,S1=⟨S.objs++[[.ptr o 0],[.str name],[bv]],S.tips⟩:=⟨_,rfl⟩;have hA1:At S1 o K D:=by have:=h.grown [[.ptr o 0],[.str name],[bv]] [];rw[cI]at this;rw[hS1];exact this
 have hF1:bj o S S1 D D:=by have:=bj.grow (o:=o) (S:=S) (D:=D) [[.ptr o 0],[.str name],[bv]] [];rw[cI]at this;rw[hS1];exact this
 have x0:S1.objs[S.objs.length]?=some [.ptr o 0]:=by rw[hS1];simp
 have x1:S1.objs[S.objs.length+1]?=some [.str name]:=by rw[hS1];simp
 have x2:S1.objs[S.objs.length+2]?=some [bv]:=by rw[hS1];simp
 have hcaps:la o [(S.objs.length,[.ptr o 0]),(S.objs.length+1,[.str name]),(S.objs.length+2,[bv])] S1 D:=by
  intro x hx;simp only[cX,kY,or_false]at hx;rcases hx with rfl|rfl|rfl
  ·exact⟨x0,h.fresh (aj _)⟩
  ·exact⟨x1,h.fresh (by omega)⟩
  ·exact⟨x2,h.fresh (by omega)⟩
 have hgoods:=aED (o:=o) (i0:=S.objs.length) (i1:=S.objs.length+1) (i2:=S.objs.length+2) hn hlen hbv.appd
 have hcl:∀f∈pk S.objs.length (S.objs.length+1) (S.objs.length+2) o,f.cells=[f]:=fun f hf=>by
  simp only[pk,cX,kY,or_false]at hf;rcases hf with rfl|rfl|rfl|rfl|rfl<;>rfl
 have hlist:=Uh hA1 (by omega);have hcon:=aEC (n:=bc) (Ur D) (by have:=hA1.namesLen;omega) S1;simp only[bc]at hcon;have hS1':St.mk (S.objs++[[.ptr o 0],[.str name],[bv]]) S.tips=S1:=hS1.symm;have hplus:S.objs.length+1+1=S.objs.length+2:=rfl
 have fin:∀{e:Int} {S':St} {D':Dk} {K':Nat},At S' o K' D'→bj o S S' D D'→ki o b name K D e D'→K≤K'→∃S'',ac false S S' (.int .i64 e)=(.int .i64 e,S'')∧At S'' o K' D'∧bj o S S'' D D':=fun q1 q2 q3 q4=>
  EA h q1 q2 (Wk q3).2 q4 rfl rfl
 by_cases hc:bc∈gU D
 ·obtain⟨r,S2,D2,q1,q2,q3,q4⟩:=aD3 hA1 (by omega) lc [] [];simp only[bc]at q1 hc;by_cases hr:r=0
  ·subst hr;have hrun:gN o [] [⟨4,bc,[]⟩] K D 0 D2:=.ok _ _ _ S1 _ _ _ _ hA1 q4 (.nil _ _);obtain⟨e,S3,D3,c1,c2,c3,c4⟩:=EH hgoods hcl (by simp[pk]) q2 (by simp[kN];omega) (hcaps.fra q3);have hA:ki o b name K D e D3:=.ok hc D2 e D3 hrun c4;have c2:At S3 o (K+12) D3:=c2;obtain⟨S4,f1,f2,f3⟩:=fin c2 ((hF1.trans q3).trans c3) hA (by omega);refine⟨e,S4,D3,aW Dz rfl ?_,f2,f3,hA⟩;obtain⟨y0,y1,y2⟩:S2.objs[S.objs.length]?=some [.ptr o 0]∧S2.objs[S.objs.length+1]?=some [.str name]∧S2.objs[S.objs.length+2]?=some [bv]:=⟨(hcaps.fra q3 (_,_) (by simp)).1,(hcaps.fra q3 (_,_) (by simp)).1,(hcaps.fra q3 (_,_) (by simp)).1⟩;simp only[pk,bV,cT,dN]at c1;simp -implicitDefEqProofs [pG,aQ,hplus,aI,dg,hb1,hb2,hS1',aU x0,Ps.q1,hlist,hcon,hc,q1,aU y0,bL,bR,bp,c1,f1]
  ·have hrun:gN o [] [⟨4,bc,[]⟩] K D r D2:=.no _ _ _ S1 _ _ _ hA1 q4 hr;have hA:ki o b name K D r D2:=.err hc r D2 hrun hr;obtain⟨S4,f1,f2,f3⟩:=fin (q2.mono (show K+2≤K+12 by omega)) (hF1.trans q3) hA (by omega);refine⟨r,S4,D2,aW Dz rfl ?_,f2,f3,hA⟩;have hrb:(r != 0)=true:=by simpa using hr
   simp -implicitDefEqProofs [pG,aQ,hplus,aI,dg,hb1,hb2,hS1',aU x0,Ps.q1,hlist,hcon,hc,q1,hrb,f1]
 ·obtain⟨e,S3,D3,c1,c2,c3,c4⟩:=EH hgoods hcl (by simp[pk]) hA1 (by simp[kN];omega) hcaps;have hA:ki o b name K D e D3:=.no hc e D3 c4;have c2:At S3 o (K+10) D3:=c2;obtain⟨S4,f1,f2,f3⟩:=fin (c2.mono (show K+10≤K+12 by omega)) (hF1.trans c3) hA (by omega);simp only[bc]at hc;refine⟨e,S4,D3,aW Dz rfl ?_,f2,f3,hA⟩;simp only[pk,bV,cT,dN]at c1;have ht:S1.tips=S.tips:=by rw[hS1]
  rw[ht]at c1;simp -implicitDefEqProofs [pG,aQ,hplus,aI,dg,hb1,hb2,hS1',aU x0,Ps.q1,hlist,hcon,hc,bL,bR,bp,ht,c1,f1]
end Ps
