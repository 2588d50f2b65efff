/- The disk: SyncDir, Fuse, Done, Read. -/
import Derived.Test.YtbjefjhmnojdoaaGreatDefs
import Derived.Test.YtbjefjhmnojdoaaGreatDC
set_option linter.defProp false
namespace Ps
set_option linter.unusedSimpArgs false
set_option linter.unusedVariables false
open Go
def rF:T.fn 77=some (.code lG):=rfl
def yK:T.fn 82=some (.code z7):=rfl
def Ci:T.fn 83=some (.code z8):=rfl
def aAl{S:St}{o:Nat}{c d:List PV}{k:IntKind}{n:Int}(hd:d=c){x:List (List PV)}(h:S.objs[o]?=some c):ac false S ⟨S.objs.set o d++x,S.tips⟩ (.int k n)=(.int k n,⟨S.objs.set o d,S.tips⟩):=by
 subst hd;rw[nT h];unfold ac;have:bQ (S.objs++x) S.objs.length eM (.int k n)=some (.int k n):=rfl;simp[this,iy,uF,PV.frz]
def pL {D:Dk} (hr:cY D=0):aX D = {D with left:=if D.left>0 then D.left-1 else D.left,done:=D.done+1}:=by
 unfold aX;unfold cY at hr;split at hr
 ·cases hr
 ·rename_i hc;rw[if_neg hc]
def db (D:Dk) (F:Nat):Dk:={D with fl:=F::D.fl,fb:=fun f=>if f=F then []else D.fb f,fs:=fun f=>if f=F then 0 else D.fs f,fv:=fun f=>if f=F then .nils else D.fv f}
def At.lt{S:St}{o K:Nat}{D:Dk}(h:At S o K D):o<S.objs.length∧D.bi<S.objs.length∧D.li<S.objs.length∧∀f∈D.fl,f<S.objs.length:=
 ⟨(aS.1 h.obj).1,(aS.1 h.base).1,(aS.1 h.live).1,fun f hf=>(aS.1 (h.file f hf).1).1⟩
def At.add{S:St}{o K:Nat}{D:Dk}(h:At S o K D):At ⟨S.objs++[[.nils,.int .i64 0]],S.tips⟩ o K (db D S.objs.length):=by
 have hlt:=h.lt;have hg:=h.grow (S':=⟨S.objs++[[.nils,.int .i64 0]],S.tips⟩) (fun i c hc=>by rw[bP (aS.1 hc).1];exact hc) (fun _ _ hc=>hc);have hne:∀f∈D.fl,f≠S.objs.length:=fun f hf e=>by have:=hlt.2.2.2 f hf;omega
 exact {
  obj:=hg.obj,base:=hg.base,live:=hg.live,wv:=hg.wv
  file:=fun f hf=>by
   rcases cX.1 hf with rfl|hf
   ·simp only[db,if_true];exact⟨by simp,.inl ⟨rfl,rfl⟩,aj _,by have:=h.rm;simp;omega⟩
   ·simp only[db,if_neg (hne f hf)];exact hg.file f hf
  inb:=fun p hp=>wD _ (h.inb p hp)
  inw:=fun x hx f hf=>wD _ (h.inw x hx f hf)
  nd:=⟨h.nd.1,h.nd.2.1,h.nd.2.2.1,fun f hf=>by
   rcases cX.1 hf with rfl|hf
   ·simp only[db];omega
   ·exact h.nd.2.2.2 f hf⟩
  tw:=fun f hf k hk=>by
   rcases cX.1 hf with rfl|hf
   ·simp[db,cU]
   ·simp only[db,if_neg (hne f hf)];exact h.tw f hf k hk
  tf:=fun f hf g hgm hfg k hk=>by
   rcases cX.1 hf with rfl|hf
   ·simp[db,cU]at hk
   ·rcases cX.1 hgm with rfl|hgm
    ·simp[db,cU]
    ·simp only[db,if_neg (hne f hf)]at hk;simp only[db,if_neg (hne g hgm)];exact h.tf f hf g hgm hfg k hk
  hist:=h.hist,nb:=h.nb,nw:=h.nw,rm:=h.rm,cnt:=h.cnt,dn:=h.dn,lf:=h.lf}
def aAm{S:St}{o:Nat}{D:Dk}{F:Nat}{c:List PV}(hFo:F=S.objs.length)(hF:∀f∈D.fl,f≠F):bj o S ⟨S.objs++[c],S.tips⟩ D (db D F):=by
 refine⟨⟨aj _,fun k hk ho=>⟨?_,rfl⟩⟩,⟨fun i d hd _ _=>by simp only;rw[bP (aS.1 hd).1];exact hd,fun i hi _ hn=>?_⟩⟩
 rotate_left
 ·rintro(q|q|q)
  ·exact hn (.inl q)
  ·exact hn (.inr (.inl q))
  ·rcases cX.1 q with q|q
   ·omega
   ·exact hn (.inr (.inr q))
 rintro(hq|⟨f,hf,hq⟩)
 ·exact ho (.inl hq)
 ·rcases cX.1 hf with rfl|hf
  ·simp[db,cU]at hq
  ·simp only[db,if_neg (hF f hf)]at hq;exact ho (.inr ⟨f,hf,hq⟩)
def Cj(D:Dk)(F:Nat):cY (db D F)=cY D:=rfl
def fD(D:Dk)(n:Nm):Int:=if cP D n=0 then 10 else if cP D n=9 then(if 64≤D.live.length then 7 else 0)else cP D n
def UZ{n:Nm}(h:bg n=true):n.length≤24:=by
 simp[bg]at h;exact h.2.2
def jZ(D:Dk)(n:Nm):cP D n=8∨(cP D n=9∧bg n=true∧lk n D.live=none)∨(cP D n=0∧bg n=true∧∃f,lk n D.live=some f):=by
 unfold cP
 cases hb:bg n with
 |false=>simp
 |true=>
  cases hl:lk n D.live with
  |none=>simp
  |some f=>simp
def aAn{S:St}{o K:Nat}{D:Dk}(h:At S o K D){n:Nm}(hn:n.length≤maxLen)(hK:K≤1048570)(he:fD D n≠0) :
  aO T 77 [.ptr o 0,.str n] S=some (.int .i64 (fD D n),S):=by
 have hf:=iM h hn;have hob:=h.obj;simp only[ax]at hob;have hlv:=h.live;refine aW rF rfl ?_;rcases jZ D n with h8|⟨h9,_,_⟩|⟨h0,_,_⟩
 ·rw[h8]at hf;simp -implicitDefEqProofs [lG,hf,cd,fD,h8,fC]
 ·rw[h9]at hf
  have hl:64≤D.live.length:=by
   simp only[fD,h9]at he;by_cases q:64≤D.live.length
   ·exact q
   ·simp[q]at he
  have hc:((cE D.live).length:Int)/2=(D.live.length:Int):=by rw[yF];omega
  have hl':(64:Int)≤(D.live.length:Int):=by omega
  simp -implicitDefEqProofs [lG,hf,cd,fD,h9,fC,aU hob,aI,hob,hlv,hc,hl,hl']
 ·rw[h0]at hf;simp -implicitDefEqProofs [lG,hf,cd,fD,h0,fC]
def aAo{S:St}{o K:Nat}{D:Dk}(h:At S o K D){n:Nm}(hn:n.length≤maxLen)(hK:K≤1048570)(he:fD D n=0)(hr:cY D=6) :
  ∃S',aO T 77 [.ptr o 0,.str n] S=some (.int .i64 6,S')∧At S' o (K+1) (aX D)∧bj o S S' D (aX D)∧(ax (aX D)=ax D→S'=S):=by
 have hf:=iM h hn;have hob:=h.obj;simp only[ax]at hob;have hlv:=h.live
 have hfe:cP D n=9∧¬64≤D.live.length:=by
  rcases jZ D n with h8|⟨h9,_,_⟩|⟨h0,_,_⟩
  ·simp[fD,h8]at he
  ·refine⟨h9,fun q=>?_⟩;simp[fD,h9,q]at he
  ·simp[fD,h0]at he
 obtain⟨h9,hl⟩:=hfe;rw[h9]at hf;have hc:((cE D.live).length:Int)/2=(D.live.length:Int):=by rw[yF];omega
 have hl':¬(64:Int)≤(D.live.length:Int):=by omega
 obtain⟨S1,hS1⟩:∃S1:St,S1=⟨S.objs++[[.nils,.int .i64 0]],S.tips⟩:=⟨_,rfl⟩;have hA:=h.add;rw[←hS1]at hA;have hen:=Cg hA (by omega) ([],n,some S.objs.length) (by rw[Cj];exact hr);simp only[cn,gT]at hen;have hstep:=jC h (by omega)
 have hdc:ax (aX (db D S.objs.length))=ax (aX D):=by
  by_cases hc:(D.dark||D.left==0)=true
  ·simp only[aX,db,hc,ax,if_true]
  ·simp only[aX,db,hc,ax];rfl
 rw[hdc]at hen;have hlt:=h.lt.1;have hset:S1.objs.set o (ax (aX D))=S.objs.set o (ax (aX D))++[[.nils,.int .i64 0]]:=by rw[hS1];simp only;rw[List.set_append_left _ _ hlt]
 have hS1t:S1.tips=S.tips:=by rw[hS1]
 rw[hset,hS1t]at hen;by_cases hd:ax (aX D)=ax D
 ·refine⟨⟨S.objs.set o (ax (aX D)),S.tips⟩,aW rF rfl ?_,hstep.2,lI,fun e=>by rw[e,nT h.obj]⟩;simp -implicitDefEqProofs [lG,hf,cd,fD,h9,fC,aU hob,aI,hob,hlv,hc,hl,hl',aQ,bK,aR,←hS1,hen];exact aAl hd h.obj
 ·refine⟨⟨S.objs.set o (ax (aX D))++[[.nils,.int .i64 0]],S.tips⟩,aW rF rfl ?_,hstep.2.grow (fun i c hc=>by rw[bP (aS.1 hc).1];exact hc) (fun _ _ hc=>hc),⟨⟨(lI (S:=S) (o:=o) (D:=D)).len,(lI (S:=S) (o:=o) (D:=D)).keep⟩,⟨fun i c hc hi hn=>by
   have:=(lI (S:=S) (o:=o) (D:=D)).o.obj i c hc hi hn;simp only at this ⊢;rw[bP (aS.1 this).1];exact this,(lI (S:=S) (o:=o) (D:=D)).o.own⟩⟩,fun e=>absurd e hd⟩
  simp -implicitDefEqProofs [lG,hf,cd,fD,h9,fC,aU hob,aI,hob,hlv,hc,hl,hl',aQ,bK,aR,←hS1,hen]
  have g1:(S.objs.set o (ax (aX D))++[[PV.nils,PV.int IntKind.i64 0]])[o]?=some (ax (aX D)):=by
   rw[bP (by simpa using hlt)];exact da h.obj
  exact nS h.obj g1 (Ne.symm hd) g1 hlt (lH _)
def aAp{S:St}{o K:Nat}{D:Dk}(h:At S o K D){n:Nm}(hn:n.length≤maxLen)(hK:K≤1048570)(he:fD D n=0)(hr:cY D=0) :
  ∃wv' S',aO T 77 [.ptr o 0,.str n] S=some (.int .i64 0,S')∧At S' o (K+2) {aX (db D S.objs.length)with live:=put n S.objs.length D.live,wait:=D.wait++[([],n,some S.objs.length)],wv:=wv'} ∧
   bj o S S' D {aX (db D S.objs.length)with live:=put n S.objs.length D.live,wait:=D.wait++[([],n,some S.objs.length)],wv:=wv'}:=by
 have hf:=iM h hn;have hob:=h.obj;simp only[ax]at hob;have hlv:=h.live
 have hfe:cP D n=9∧bg n=true∧¬64≤D.live.length:=by
  rcases jZ D n with h8|⟨h9,hnm,_⟩|⟨h0,_,_⟩
  ·simp[fD,h8]at he
  ·refine⟨h9,hnm,fun q=>?_⟩;simp[fD,h9,q]at he
  ·simp[fD,h0]at he
 obtain⟨h9,hnm,hl⟩:=hfe;have hne:n≠[]:=fun e=>by subst e;simp[bg]at hnm
 rw[h9]at hf;have hc:((cE D.live).length:Int)/2=(D.live.length:Int):=by rw[yF];omega
 have hl':¬(64:Int)≤(D.live.length:Int):=by omega
 obtain⟨S1,hS1⟩:∃S1:St,S1=⟨S.objs++[[.nils,.int .i64 0]],S.tips⟩:=⟨_,rfl⟩;have hA:=h.add;rw[←hS1]at hA;obtain⟨wv',S',hen,hA',hF'⟩:=Ch hA hK ([],n,some S.objs.length) (fun e=>by cases e) (fun f hf=>by cases hf;exact List.mem_cons_self) (UZ hnm) (by rw[Cj];exact hr);have hdo:doE ([],n,some S.objs.length) (db D S.objs.length).live=put n S.objs.length D.live:=by simp[doE,hne,db]
 rw[hdo]at hA' hF';simp only[cn,gT]at hen;have hfl:∀f∈D.fl,f≠S.objs.length:=fun f hf e=>by have:=h.lt.2.2.2 f hf;omega
 have hF0:bj o S S1 D (db D S.objs.length):=by rw[hS1];exact aAm rfl hfl
 refine⟨wv',S',aW rF rfl ?_,hA',hF0.trans hF'⟩;simp -implicitDefEqProofs [lG,hf,cd,fD,h9,fC,aU hob,aI,hob,hlv,hc,hl,hl',aQ,bK,aR,←hS1,hen];refine nS h.obj hA'.obj ?_ (i:=o) hA'.obj h.lt.1 (lH _);intro e;have hdd:(aX (db D S.objs.length)).done=D.done+1:=by rw[pL (by rw[Cj];exact hr)];rfl
 simp only[ax,kW,PV.int.injEq,true_and]at e;omega
def aAq{S:St}{o K:Nat}{D:Dk}(h:At S o K D){n:Nm}(hn:n.length≤maxLen)(he:cP D n≠0):aO T 83 [.ptr o 0,.str n] S=some (.int .i64 (cP D n),S):=by
 have hf:=iM h hn;refine aW Ci rfl ?_;rcases jZ D n with h8|⟨h9,_,_⟩|⟨h0,_,_⟩
 ·rw[h8]at hf;simp -implicitDefEqProofs [z8,hf,cd,h8,fC]
 ·rw[h9]at hf;simp -implicitDefEqProofs [z8,hf,cd,h9,fC]
 ·exact absurd h0 he
def uJ{S:St}{o K:Nat}{D:Dk}(h:At S o K D){n:Int}:ac false S ⟨S.objs.set o (ax (aX D)),S.tips⟩ (.int .i64 n)=(.int .i64 n,⟨S.objs.set o (ax (aX D)),S.tips⟩):=uG h.obj (lH _)
def aAr{S:St}{o K:Nat}{D:Dk}(h:At S o K D){n:Nm}(hn:n.length≤maxLen)(hK:K≤1048570)(he:cP D n=0)(hr:cY D=6) :
  aO T 83 [.ptr o 0,.str n] S=some (.int .i64 6,⟨S.objs.set o (ax (aX D)),S.tips⟩):=by
 have hf:=iM h hn;rw[he]at hf;have hen:=Cg h (by omega) (n,[],none) hr;simp only[cn,gT]at hen;refine aW Ci rfl ?_;simp -implicitDefEqProofs [z8,hf,cd,aQ,bK,aR,hen];exact uJ h
def rG{S S':St}{o K K':Nat}{D D':Dk}(h:At S o K D)(h':At S' o K' D')(hd:D'.done=D.done+1){n:Int}:ac false S S' (.int .i64 n)=(.int .i64 n,S'):=by
 refine nS h.obj h'.obj ?_ (i:=o) h'.obj h.lt.1 (lH _);intro e;simp only[ax,kW,PV.int.injEq,true_and]at e;omega
def aAs{S:St}{o K:Nat}{D:Dk}(h:At S o K D){n:Nm}(hn:n.length≤maxLen)(hK:K≤1048570)(he:cP D n=0)(hr:cY D=0) :
  ∃wv' S',aO T 83 [.ptr o 0,.str n] S=some (.int .i64 0,S')∧At S' o (K+2) {aX D with live:=doE (n,[],none) D.live,wait:=D.wait++[(n,[],none)],wv:=wv'} ∧
   bj o S S' D {aX D with live:=doE (n,[],none) D.live,wait:=D.wait++[(n,[],none)],wv:=wv'}:=by
 have hf:=iM h hn;rw[he]at hf
 have hlk:(lk n D.live).isSome=true:=by
  rcases jZ D n with h8|⟨h9,_,_⟩|⟨_,_,f,hf⟩
  ·rw[h8]at he;cases he
  ·rw[h9]at he;cases he
  ·rw[hf];rfl
 obtain⟨wv',S',hen,hA',hF'⟩:=Ch h hK (n,[],none) (fun _=>hlk) (fun f hf=>by cases hf) (by simp) hr;simp only[cn,gT]at hen;refine⟨wv',S',aW Ci rfl ?_,hA',hF'⟩;simp -implicitDefEqProofs [z8,hf,cd,aQ,bK,aR,hen];exact rG h hA' (by rw[pL hr])
def fZ(D:Dk)(a b:Nm):Int:=if cP D a=8 then 8 else if bg b then cP D a else 8
def aAt{S:St}{o K:Nat}{D:Dk}(h:At S o K D){a b:Nm}(ha:a.length≤maxLen)(hb:b.length≤maxLen)(he:fZ D a b≠0):aO T 82 [.ptr o 0,.str a,.str b] S=some (.int .i64 (fZ D a b),S):=by
 have hf:=iM h ha;have hpv:=yI hb;refine aW yK rfl ?_;rcases jZ D a with h8|⟨h9,_,_⟩|⟨h0,_,_⟩
 ·rw[h8]at hf;simp -implicitDefEqProofs [z7,hf,h8,fC,fZ]
 ·rw[h9]at hf;cases hq:bg b
  ·rw[hq]at hpv;simp -implicitDefEqProofs [z7,hf,h9,fC,fZ,hpv,hq]
  ·rw[hq]at hpv;simp -implicitDefEqProofs [z7,hf,h9,fC,fZ,hpv,hq]
 ·rw[h0]at hf;cases hq:bg b
  ·rw[hq]at hpv;simp -implicitDefEqProofs [z7,hf,h0,fC,fZ,hpv,hq]
  ·simp[fZ,h0,hq]at he
def aAu{S:St}{o K:Nat}{D:Dk}(h:At S o K D){a b:Nm}(ha:a.length≤maxLen)(hb:b.length≤maxLen)(hK:K≤1048570)(he:fZ D a b=0)(hr:cY D=6) :
  aO T 82 [.ptr o 0,.str a,.str b] S=some (.int .i64 6,⟨S.objs.set o (ax (aX D)),S.tips⟩):=by
 have hf:=iM h ha;have hpv:=yI hb
 obtain⟨h0,hq⟩:cP D a=0∧bg b=true:=by
  rcases jZ D a with h8|⟨h9,_,_⟩|⟨h0,_,_⟩
  ·simp[fZ,h8]at he
  ·cases hq:bg b<;>simp[fZ,h9,hq]at he
  ·cases hq:bg b
   ·simp[fZ,h0,hq]at he
   ·exact⟨h0,rfl⟩
 rw[h0]at hf;rw[hq]at hpv;have hen:=Cg h (by omega) (a,b,none) hr;simp only[cn,gT]at hen;refine aW yK rfl ?_;simp -implicitDefEqProofs [z7,hf,aQ,bK,aR,hen,hpv];exact uJ h
def aAv{S:St}{o K:Nat}{D:Dk}(h:At S o K D){a b:Nm}(ha:a.length≤maxLen)(hb:b.length≤maxLen)(hK:K≤1048570)(he:fZ D a b=0)(hr:cY D=0) :
  ∃wv' S',aO T 82 [.ptr o 0,.str a,.str b] S=some (.int .i64 0,S')∧At S' o (K+2) {aX D with live:=doE (a,b,none) D.live,wait:=D.wait++[(a,b,none)],wv:=wv'} ∧
   bj o S S' D {aX D with live:=doE (a,b,none) D.live,wait:=D.wait++[(a,b,none)],wv:=wv'}:=by
 have hf:=iM h ha;have hpv:=yI hb
 obtain⟨h0,hq,hlk⟩:cP D a=0∧bg b=true∧(lk a D.live).isSome=true:=by
  rcases jZ D a with h8|⟨h9,_,_⟩|⟨h0,_,f,hf⟩
  ·simp[fZ,h8]at he
  ·cases hq:bg b<;>simp[fZ,h9,hq]at he
  ·cases hq:bg b
   ·simp[fZ,h0,hq]at he
   ·exact⟨h0,rfl,by rw[hf];rfl⟩
 rw[h0]at hf;rw[hq]at hpv;obtain⟨wv',S',hen,hA',hF'⟩:=Ch h hK (a,b,none) (fun _=>hlk) (fun f hf=>by cases hf) (UZ hq) hr;simp only[cn,gT]at hen;refine⟨wv',S',aW yK rfl ?_,hA',hF'⟩;simp -implicitDefEqProofs [z7,hf,aQ,bK,aR,hen,hpv];exact rG h hA' (by rw[pL hr])
end Ps
set_option linter.defProp false
namespace Ps
set_option linter.unusedSimpArgs false
set_option linter.unusedVariables false
open Go
def uK:T.fn 84=some (.code nP):=rfl
def Ua:T.fn 79=some (.code z4):=rfl
def aAw:T.fn 81=some (.code nJ):=rfl
def Ck:T.fn 201=some (.code z5):=rfl
def Ub:T.fn 197=some (.exs pQ):=rfl
def dD (D:Dk) (f:Nat) (v:PV) (b:List UInt8) (s:Nat):Dk:={D with fb:=fun g=>if g=f then b else D.fb g,fs:=fun g=>if g=f then s else D.fs g,fv:=fun g=>if g=f then v else D.fv g}
def At.setf{S:St}{o K:Nat}{D:Dk}(h:At S o K D){f:Nat}(hf:f∈D.fl){v:PV}{b:List UInt8}{s:Nat}{tips':List (Nat×Nat)}(hw:fi ⟨[],tips'⟩ 1 v (aL b))(hs:s≤b.length)(hr:(b.length:Int)≤D.room)
  (htips:∀g∈D.fl,g≠f→∀k,cU (D.fv g)=some k→tips'[k]?=S.tips[k]?)(hwt:∀k,cU D.wv=some k→tips'[k]?=S.tips[k]?)
  (hk:∀k,cU v=some k→cU D.wv≠some k∧∀g∈D.fl,g≠f→cU (D.fv g)≠some k):At ⟨S.objs.set f [v,.int .i64 s],tips'⟩ o K (dD D f v b s) where
 obj:=by rw[ak (h.nd.2.2.2 f hf).1];exact h.obj
 base:=by show(S.objs.set f _)[D.bi]?=_;rw[ak (h.nd.2.2.2 f hf).2.1];exact h.base
 live:=by show(S.objs.set f _)[D.li]?=_;rw[ak (h.nd.2.2.2 f hf).2.2];exact h.live
 wv:=h.wv.of hwt
 file:=fun g hg=>by
  by_cases e:g=f
  ·subst e;simp only[dD,if_true];exact⟨da (h.file g hf).1,hw.of (fun _ _=>rfl),hs,hr⟩
  ·simp only[dD,if_neg e];obtain⟨h1,h2,h3⟩:=h.file g hg;exact⟨by rw[ak (Ne.symm e)];exact h1,h2.of (htips g hg e),h3⟩
 inb:=h.inb
 inw:=h.inw
 nd:=h.nd
 tw:=fun g hg k hw'=>by
  by_cases e:g=f
  ·subst e;simp only[dD,if_true];exact fun hv=>(hk k hv).1 hw'
  ·simp only[dD,if_neg e];exact h.tw g hg k hw'
 tf:=fun g hg i hi hgi k hgk=>by
  by_cases e:g=f
  ·subst e;simp only[dD,if_true]at hgk;simp only[dD,if_neg (Ne.symm hgi)];exact(hk k hgk).2 i hi (Ne.symm hgi)
  ·simp only[dD,if_neg e]at hgk;by_cases e2:i=f
   ·subst e2;simp only[dD,if_true];exact fun hv=>(hk k hv).2 g hg e hgk
   ·simp only[dD,if_neg e2];exact h.tf g hg i hi hgi k hgk
 hist:=h.hist
 nb:=h.nb
 nw:=h.nw
 rm:=h.rm
 cnt:=h.cnt
 dn:=h.dn
 lf:=h.lf
def aAx{S:St}{o K:Nat}{D:Dk}(h:At S o K D){n:Nm}(hn:n.length≤maxLen)(he:cP D n≠0):aO T 84 [.ptr o 0,.str n] S=some (.int .i64 (cP D n),S):=by
 have hf:=iM h hn;refine aW uK rfl ?_;rcases jZ D n with h8|⟨h9,_,_⟩|⟨h0,_,_⟩
 ·rw[h8]at hf;simp -implicitDefEqProofs [nP,hf,h8,fC]
 ·rw[h9]at hf;simp -implicitDefEqProofs [nP,hf,h9,fC]
 ·exact absurd h0 he
def uL{D:Dk}{n:Nm}(he:cP D n=0):∃f,lk n D.live=some f∧rD D n=.ptr f 0∧bg n=true:=by
 rcases jZ D n with h8|⟨h9,_,_⟩|⟨_,hn,f,hf⟩
 ·rw[h8]at he;cases he
 ·rw[h9]at he;cases he
 ·exact⟨f,hf,by simp[rD,hn,hf,gT],hn⟩
def aAy{S:St}{o K:Nat}{D:Dk}(h:At S o K D){n:Nm}(hn:n.length≤maxLen)(hK:K≤1048570)(he:cP D n=0)(hr:cY D=6) :
  aO T 84 [.ptr o 0,.str n] S=some (.int .i64 6,⟨S.objs.set o (ax (aX D)),S.tips⟩):=by
 have hf:=iM h hn;rw[he]at hf;have hs:=(jC h (by omega)).1;rw[hr]at hs;refine aW uK rfl ?_;simp -implicitDefEqProofs [nP,hf,hs];exact uJ h
def yL{S:St}{sz:Nat}{v:PV}{es:List PV}(h:fi S sz v es):cz false v=some (.int .i64 es.length):=by
 rcases h with⟨rfl,rfl⟩|⟨k,e,rfl,_⟩<;>rfl
def aAz{S:St}{o K:Nat}{D:Dk}(h:At S o K D){n:Nm}(hn:n.length≤maxLen)(hK:K≤1048570)(he:cP D n=0)(hr:cY D=0){f:Nat}(hlk:lk n D.live=some f) :
  ∃S',aO T 84 [.ptr o 0,.str n] S=some (.int .i64 0,S')∧At S' o (K+1) (dD (aX D) f (D.fv f) (D.fb f) (D.fb f).length)∧bj o S S' D (dD (aX D) f (D.fv f) (D.fb f) (D.fb f).length):=by
 have hf:=iM h hn;obtain⟨f',hlk',hff,_⟩:=uL he;rw[hlk]at hlk';cases hlk';rw[he,hff]at hf;obtain⟨hs,hA⟩:=jC h (by omega);rw[hr]at hs;obtain⟨_,_,_,e4,_,e6,e7,e8,e9,e10,e11⟩:=iO D;have hfm:f∈D.fl:=h.inl _ (ic hlk);have hfs:=hA.file f (by rw[e7];exact hfm);rw[e8,e9,e10,e11]at hfs;obtain⟨S1,hS1⟩:∃S1:St,S1=⟨S.objs.set o (ax (aX D)),S.tips⟩:=⟨_,rfl⟩;rw[←hS1]at hs hA hfs;have hlen:=yL hfs.2.1
 have hfin:=hA.setf (f:=f) (by rw[e7];exact hfm) (v:=D.fv f) (b:=D.fb f) (s:=(D.fb f).length) (tips':=S1.tips) (hfs.2.1.of (fun _ _=>rfl)) (aj _) (by rw[e11];exact hfs.2.2.2) (fun _ _ _ _ _=>rfl) (fun _ _=>rfl)
  (fun k hk=>⟨by rw[e6];exact fun hw=>h.tw f hfm k hw hk,by rw[e7,e10];exact fun g hg hgf=>h.tf f hfm g hg (Ne.symm hgf) k hk⟩)
 have hob:=hfs.1;have hbl:(aL (D.fb f)).length=(D.fb f).length:=by simp[aL]
 rw[hbl]at hlen;refine⟨_,aW uK rfl ?_,hfin,?_⟩
 ·simp -implicitDefEqProofs [nP,hf,hs,aU hob,hlen,aI,hob,aR];exact rG h hfin (by rw[show(dD (aX D) f (D.fv f) (D.fb f) (D.fb f).length).done=(aX D).done from rfl,pL hr])
 ·refine⟨⟨by rw[hS1];exact aj _,fun k hk ho=>⟨?_,by rw[hS1]⟩⟩,⟨fun i c hc hi hn=>by
   simp only;rw[ak (fun e=>hn (.inr (.inr (by rw[←e];exact hfm)))),hS1];simp only;rw[ak (Ne.symm hi)];exact hc,fun i _ _ hn=>uI (iO D).1 (iO D).2.1 e7 hn⟩⟩
  rintro(hq|⟨g,hg,hq⟩)
  ·exact ho (.inl (by rw[←e6];exact hq))
  ·have hg:g∈D.fl:=by rw[←e7];exact hg
   refine ho (.inr ⟨g,hg,?_⟩);simp only[dD]at hq;split at hq
   ·rename_i e;rw[e];exact hq
   ·rw[←e10];exact hq
def aAA:T.fn 85=some (.code qn):=rfl
def Cl{f:Nat}{e:List PV→St→Option (PV×St)}(h:T.fn f=some (.exs e)){args:List PV}{S:St}{x:PV×St}(hx:e args S=some x):aO T f args S=some x:=
 Df 1 (by simp only[bY,h];exact hx)
def jD (D:Dk) (n:Int):Dk:={D with left:=if n < -1 then -1 else n}
def aAB{S:St}{o K:Nat}{D:Dk}(h:At S o K D){n:Int}(hn:n≤9223372036854775807) :
  aO T 85 [.ptr o 0,.int .i64 n] S=some (.tup [],⟨S.objs.set o (ax (jD D n)),S.tips⟩)∧At ⟨S.objs.set o (ax (jD D n)),S.tips⟩ o K (jD D n)∧bj o S ⟨S.objs.set o (ax (jD D n)),S.tips⟩ D (jD D n):=by
 have hob:=h.obj;have hdn:=h.dn;have hA:=h.set (left:=if n < -1 then -1 else n) (done:=D.done) (dark:=D.dark) (by split<;>omega) (aj _) hdn;refine⟨?_,hA,⟨aj _,fun k hk ho=>⟨ho,rfl⟩⟩,⟨fun i c hc hi _=>by simp only;rw[ak (Ne.symm hi)];exact hc,fun i _ _ hn=>hn⟩⟩;have hob':=hob;simp only[ax]at hob'
 have hfin:ac false S ⟨S.objs.set o (ax (jD D n)),S.tips⟩ (.tup [])=(.tup [],⟨S.objs.set o (ax (jD D n)),S.tips⟩):=by
  by_cases hcd:ax D=ax (jD D n)
  ·rw[←hcd,nT hob,kC];rfl
  ·exact nS hob (da hob) hcd (i:=o) (da hob) h.lt.1 (lH _)
 refine aW aAA rfl ?_;by_cases hl:n < -1
 ·simp -implicitDefEqProofs [qn,aU hob',ed,aI,hob',aR,hl];rw[pZ];simp only[jD,hl,if_true,ax]at hfin ⊢;exact hfin
 ·simp -implicitDefEqProofs [qn,aU hob',ed,aI,hob',aR,hl];rw[pZ];simp only[jD,hl,if_false,ax]at hfin ⊢;exact hfin
def aAC{S:St}{o K:Nat}{D:Dk}(h:At S o K D)(hK:K≤1048570)(hr:cY D=6):aO T 79 [.ptr o 0] S=some (.int .i64 6,⟨S.objs.set o (ax (aX D)),S.tips⟩):=by
 have hs:=(jC h (by omega)).1;rw[hr]at hs;have hob:=h.obj;simp only[ax]at hob;refine aW Ua rfl ?_;simp -implicitDefEqProofs [z4,aU hob,hs];exact uJ h
def At.newbase {S:St} {o K:Nat} {D:Dk} (h:At S o K D):At ⟨(S.objs++[cE D.live]).set o (ax {D with bi:=S.objs.length,wv:=.nils}),S.tips⟩ o K {D with bi:=S.objs.length,base:=D.live,wait:=[],wv:=.nils}:=by
 obtain⟨l1,l2,l3,l4⟩:=h.lt;have hap:∀{i:Nat} {c:List PV},S.objs[i]?=some c→(S.objs++[cE D.live])[i]?=some c:=fun hc=>by rw[bP (aS.1 hc).1];exact hc
 exact {
  obj:=da (hap h.obj)
  base:=by
   show((S.objs++[cE D.live]).set o _)[S.objs.length]?=_;rw[ak (by omega)];simp
  live:=by
   show((S.objs++[cE D.live]).set o _)[D.li]?=_;rw[ak h.nd.2.1];exact hap h.live
  wv:=.inl ⟨rfl,rfl⟩
  file:=fun f hf=>by
   obtain⟨h1,h2,h3⟩:=h.file f hf;exact⟨by rw[ak (Ne.symm (h.nd.2.2.2 f hf).1)];exact hap h1,h2.of (fun _ _=>rfl),h3⟩
  inb:=h.inl
  inw:=fun x hx=>by cases hx
  nd:=⟨by simp only;omega,h.nd.2.1,by simp only;omega,fun f hf=>⟨(h.nd.2.2.2 f hf).1,by have:=l4 f hf;simp only;omega,(h.nd.2.2.2 f hf).2.2⟩⟩
  tw:=fun f hf k hk=>by simp[cU]at hk
  tf:=h.tf
  hist:=.nil _
  nb:=h.nl
  nw:=fun x hx=>by cases hx
  rm:=h.rm
  cnt:=by have:=h.ll;simpa using this
  dn:=h.dn
  lf:=h.lf}
def aAD{S:St}{o K:Nat}{D:Dk}(h:At S o K D)(hK:K≤1048570)(hr:cY D=0) :
  ∃S',aO T 79 [.ptr o 0] S=some (.int .i64 0,S')∧At S' o (K+1) {aX D with bi:=S.objs.length,base:=D.live,wait:=[],wv:=.nils}∧bj o S S' D {aX D with bi:=S.objs.length,base:=D.live,wait:=[],wv:=.nils}:=by
 obtain⟨hs,hA⟩:=jC h (by omega);rw[hr]at hs;have hob:=h.obj;simp only[ax]at hob;obtain⟨e1,e2,e3,e4,e5,e6,e7,e8,e9,e10,e11⟩:=iO D;obtain⟨S1,hS1⟩:∃S1:St,S1=⟨S.objs.set o (ax (aX D)),S.tips⟩:=⟨_,rfl⟩;rw[←hS1]at hs hA;have hlen:S1.objs.length=S.objs.length:=by rw[hS1];simp
 have hN:=hA.newbase;rw[hlen]at hN;have hob1:=hA.obj;simp only[ax,e1,e2,e6,e11]at hob1;have hlv1:S1.objs[D.li]?=some (cE D.live):=by have:=hA.live;rw[e2,e4]at this;exact this
 have hcl:aO T 197 [.map D.li] S1=some (.map S1.objs.length,⟨S1.objs++[cE D.live],S1.tips⟩):=Cl Ub (by simp only[pQ,hlv1])
 have hob2:(S1.objs++[cE D.live])[o]?=some [.int .i64 D.room,.map D.bi,.map D.li,D.wv,.int .i64 (aX D).left,.int .i64 (aX D).done,.bool (aX D).dark]:=by
  rw[bP (aS.1 hob1).1];exact hob1
 have hd:ax {aX D with bi:=S.objs.length,wv:=.nils}=[.int .i64 D.room,.map S.objs.length,.map D.li,.nils,.int .i64 (aX D).left,.int .i64 (aX D).done,.bool (aX D).dark]:=by simp only[ax,e2,e11]
 rw[←e4];refine⟨_,aW Ua rfl ?_,hN,?_⟩
 ·simp -implicitDefEqProofs [z4,aU hob,hs,aU hob1,hcl,aI,hob2,da hob2,aR];rw[e4,hlen];have hd':ax {aX D with bi:=S.objs.length,wv:=.nils}=_:=hd;rw[e4]at hN;have hq:=rG h hN (n:=0) (by rw[pL hr]);simp only[ax,e2,e11]at hq ⊢;exact hq
 ·refine⟨⟨by rw[hS1];exact aj _,fun k hk ho=>⟨?_,by rw[hS1]⟩⟩,⟨fun i c hc hi hn=>by
   simp only;rw[ak (Ne.symm hi),bP (by rw[hlen];exact(aS.1 hc).1),hS1];simp only;rw[ak (Ne.symm hi)];exact hc,fun i hi _ hn=>?_⟩⟩
  rotate_left
  ·rintro(q|q|q)
   ·simp only at q;omega
   ·exact hn (.inr (.inl (by simp only[e2]at q;exact q)))
   ·exact hn (.inr (.inr (by simp only[e7]at q;exact q)))
  rintro(hq|⟨g,hg,hq⟩)
  ·simp[cU]at hq
  ·simp only[e7,e10]at hg hq;exact ho (.inr ⟨g,hg,hq⟩)
def gw(v:PV)(b:List UInt8):PV:=match v with|.nils=>.nils|_=>.sl none (aL b) []
def Cm:∀b:List UInt8,gG 1 (aL b)=true:=by
 intro b;cases b<;>rfl
theorem Cn:∀b:List UInt8,PV.freeL (aL b)=true
 | []=>rfl
 |c::b=>by simp only[aL,dS,PV.freeL,PV.free,vu];exact Cn b
theorem Co:∀b:List UInt8,PV.frzL (aL b)=aL b
 | []=>rfl
 |c::b=>by simp only[aL,dS,PV.frzL,PV.frz,kW,true_and];exact Co b
def Cp{S:St}{y:List (Nat×Nat)}{r:PV}(hr:r.free=true):ac false S ⟨S.objs,y⟩ r=(r.frz,⟨S.objs,y.take S.tips.length⟩):=by
 unfold ac;have:bQ S.objs S.objs.length eM r=some r:=lz hr;simp[this,iy,uF]
def aAE{S:St}{v:PV}{b:List UInt8}(h:fi S 1 v (aL b))(hb:b.length≤4194304):aO T 201 [v] S=some (gw v b,S):=by
 rcases h with⟨rfl,hn⟩|⟨k,e,rfl,ht⟩
 ·refine aW Ck rfl ?_;have:eg false .s .nils=some (.bool true):=rfl;simp -implicitDefEqProofs [z5,this];rw[kC];rfl
 ·have hq:eg false .s (.sl (some (k,e)) (aL b) [])=some (.bool false):=rfl;have hap:gI 1 (.sl (some (k,e)) (aL b) [])=some (aL b):=by simp[gI,Cm]
  have hz:=Cm b
  cases b with
  |nil=>
   refine aW Ck rfl ?_;have hap2:fL 1 1 ⟨S.objs,S.tips++[(0,1)]⟩ (.sl (some (S.tips.length,0)) [] []) (aL [])=some (.sl (some (S.tips.length,0)) [] [],⟨S.objs,S.tips++[(0,1)]⟩):=rfl;simp -implicitDefEqProofs [z5,hq,aI,bL,bR,bp,sY,hz,hap2];rw[Cp rfl]
   simp[PV.frz,PV.frzL,gw,aL]
  |cons c b=>
   refine aW Ck rfl ?_;have hap2:=Cf (sz:=1) (b:=1) (S:=⟨S.objs,S.tips++[(0,1)]⟩) (new:=aL (c::b)) (es:=[]) (k:=S.tips.length) (e:=0) (by simp[aL]) (by simp) (by simp[aL]at hb ⊢;omega);simp -implicitDefEqProofs [z5,hq,aI,bL,bR,bp,sY,hz,hap2];rw[Cp (by simp[PV.free,PV.freeL,Cn])];simp[PV.frz,PV.frzL,gw,Co]
def aAF(v:PV)(b:List UInt8):(gw v b).free=true:=by
 unfold gw;split
 ·rfl
 ·simp[PV.free,PV.freeL,Cn]
def aAG(v:PV)(b:List UInt8):(gw v b).frz=gw v b:=by
 unfold gw;split
 ·rfl
 ·simp[PV.frz,PV.frzL,Co]
def df(D:Dk)(n:Nm):Int:=if cP D n≠0 then cP D n else if D.dark then 6 else 0
def iP(D:Dk)(n:Nm):PV:=if df D n=0 then(match lk n D.live with|some f=>gw (D.fv f) (D.fb f)|none=>.nils)else .nils
def Uc{S:St}{o K:Nat}{D:Dk}(h:At S o K D){n:Nm}(hn:n.length≤maxLen):aO T 81 [.ptr o 0,.str n] S=some (.tup [iP D n,.int .i64 (df D n)],S):=by
 have hf:=iM h hn;have hob:=h.obj;simp only[ax]at hob;have fin0:∀e:Int,ac false S S (.tup [.nils,.int .i64 e])=(.tup [.nils,.int .i64 e],S):=fun e=>by rw[kC];rfl
 refine aW aAw rfl ?_;rcases jZ D n with h8|⟨h9,_,_⟩|⟨h0,_,_⟩
 ·rw[h8]at hf;simp -implicitDefEqProofs [nJ,hf,h8,df,iP,fin0]
 ·rw[h9]at hf;simp -implicitDefEqProofs [nJ,hf,h9,df,iP,fin0]
 ·obtain⟨f,hlk,hff,_⟩:=uL h0;rw[h0,hff]at hf
  cases hd:D.dark with
  |true=>
   rw[hd]at hob
   simp -implicitDefEqProofs [nJ,hf,h0,df,iP,fin0,aU hob,hd]
  |false=>
   rw[hd]at hob;obtain⟨hfo,hsl,_,hroom⟩:=h.file f (h.inl _ (ic hlk));have hcl:=aAE hsl (by have:=h.rm;omega)
   have fin1:ac false S S (.tup [gw (D.fv f) (D.fb f),.int .i64 0])=(.tup [gw (D.fv f) (D.fb f),.int .i64 0],S):=by
    have:=Cp (S:=S) (y:=S.tips) (r:=.tup [gw (D.fv f) (D.fb f),.int .i64 0]) (by simp[PV.free,PV.freeL,aAF]);rw[iy]at this;simp only[PV.frz,PV.frzL,aAG]at this;exact this
   simp -implicitDefEqProofs [nJ,hf,h0,df,iP,fin1,aU hob,hd,aU hfo,hcl,hlk]
end Ps
