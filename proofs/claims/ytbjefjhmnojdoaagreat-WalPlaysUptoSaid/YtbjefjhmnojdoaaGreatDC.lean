/- The disk: an entry is done; enter. -/
import Derived.Test.YtbjefjhmnojdoaaGreatDefs
import Derived.Test.YtbjefjhmnojdoaaGreatDA
set_option linter.defProp false
namespace Ps
set_option linter.unusedSimpArgs false
set_option linter.unusedVariables false
open Go
def aAg:T.fn 202=some (.code uE):=rfl
def UV:T.fn 194=some (.code z24):=rfl
def jY(c:UInt8):Bool:=(97≤c.toNat&&c.toNat≤122)||(48≤c.toNat&&c.toNat≤57)||c.toNat==46||c.toNat==45
def bg(s:Nm):Bool:=s.all jY&&(!(s==[])&&decide (s.length≤24))
def aAh{s:List UInt8}(hs:s.length≤maxLen){K:List Kt}{S:St}{Q:Fr→St→Prop}:∀(rest pre:List UInt8),s=pre++rest→∀(fr:Fr),
  fr 0=.str s→fr 6=.int .i64 s.length→fr 7=.int .i64 pre.length →
  (rest.all jY=true→∀fr',fr' 0=.str s→Ok (aJ T K fr' S) Q)→(rest.all jY=false→∀fr',fr' 2=.bool false→Q fr' S) →
  Ok (aJ T (.lp yD::.blk 0::K) fr S) Q:=by
 intro rest
 induction rest with
 |nil=>
  intro pre hp fr h0 h6 h7 k1 k2;rw[cI]at hp;subst hp;rw[af];simp[h0,h6,h7]
  exact k1 rfl _ (by simp[h0])
 |cons c rest ih=>
  intro pre hp fr h0 h6 h7 k1 k2;have hi:pre.length<s.length:=by rw[hp];simp
  have hc:s[pre.length]=c:=by simp[hp]
  unfold maxLen at hs;have hw:=dR (a:=pre.length) (by omega)
  have hL:∀fr',fr' 0=.str s→fr' 6=.int .i64 s.length→fr' 7=.int .i64 ((pre.length+1:Nat):Int)→jY c=true→Ok (aJ T (.lp yD::.blk 0::K) fr' S) Q:=by
   intro fr' g0 g6 g7 gl;refine ih (pre++[c]) (by simp[hp]) fr' g0 g6 (by simpa using g7) (fun h=>k1 ?_) (fun h=>k2 ?_)
   ·simp only[mq,gl,h,sZ]
   ·simp only[mq,h,Fy]
  have hR:∀fr',fr' 2=.bool false→jY c=false→Q fr' S:=fun fr' g2 gl=>k2 (by simp only[mq,gl,qP]) fr' g2;clear k1 k2;rw[af];simp -implicitDefEqProofs [h0,h6,h7,hi,hc];refine bX (fun a1=>cV (hR _ (by simp) ?_)) (fun a1=>hL _ (by simp[h0]) (by simp[h6]) (by simp[hw]) ?_)
  ·simp[jY]at a1 ⊢;omega
  ·simp[jY]at a1 ⊢;omega
def aAi{s:Nm}(hs:s.length≤maxLen):aO T 202 [.str s] bk=some (.bool (bg s),bk):=by
 refine aW aAg rfl ?_;simp[uE];refine aAh hs s [] rfl _ (by simp) (by simp) (by simp) (fun h fr' g0=>?_) (fun h fr' g2=>?_)
 ·simp[g0,bg,h]
  congr 1;exact decide_eq_decide.2 (by omega)
 ·simp[g2,bg,h]
def yI{s:Nm}(hs:s.length≤maxLen):eu T 202 [.str s]=some (.bool (bg s)):=by
 rw[eu,aAi hs];rfl
def cP(D:Dk)(n:Nm):Int:=if bg n then(match lk n D.live with|some _=>0|none=>9)else 8
def rD(D:Dk)(n:Nm):PV:=if bg n then gT (lk n D.live)else .nilp
def iM{S:St}{o K:Nat}{D:Dk}(h:At S o K D){n:Nm}(hn:n.length≤maxLen):aO T 194 [.ptr o 0,.str n] S=some (.tup [rD D n,.int .i64 (cP D n)],S):=by
 have hob:=h.obj;have hlv:=h.live;obtain⟨room,left,done,dark,bi,li,base,live,wait,wv,fl,fb,fs,fv⟩:=D;simp only at hlv;simp only[ax]at hob;have hpv:=yI hn;have hfind:=yE n live;refine aW UV rfl ?_
 cases hb:bg n with
 |false=>
  rw[hb]at hpv;simp -implicitDefEqProofs [z24,aU hob,aI,hob,hpv,cP,rD,hb]
  rw[kC];rfl
 |true=>
  rw[hb]at hpv
  cases hl:lk n live with
  |none=>
   rw[hl]at hfind;simp -implicitDefEqProofs [z24,aU hob,aI,hob,hlv,hpv,hfind,cP,rD,hb,hl,jF,fa]
   rw[kC];rfl
  |some f=>
   rw[hl]at hfind;have hf:f<S.objs.length:=(aS.1 (h.file f (h.inl _ (ic hl))).1).1;simp -implicitDefEqProofs [z24,aU hob,aI,hob,hlv,hpv,hfind,cP,rD,hb,hl,jF,fa];rw[kC]
   have hs:bQ S.objs S.objs.length eM (.tup [.ptr f 0,.int .i64 0])=none:=by
    have:¬S.objs.length≤f:=by omega
    simp[bQ,eM,cr,PV.free,PV.freeL,this]
   rw[hs];rfl
def UW:T.fn 198=some (.code nM):=rfl
def Ce:T.fn 195=some (.code pI):=rfl
def UX{S:St}{m o:Nat}{l:List (Nm×Nat)}{c:List PV}(hm:S.objs[m]?=some (cE l))(ho:S.objs[o]?=some c)(hne:o≠m)(hc:PV.freeL c=false)(x:di)(hx:x.2.2=none→(lk x.1 l).isSome=true) :
  aO T 198 [cn x,.map m] S=some (.tup [],⟨S.objs.set m (cE (doE x l)),S.tips⟩):=by
 obtain⟨a,b,f⟩:=x;have hmo:m≠o:=Ne.symm hne
 have fin:∀d,ac false S ⟨S.objs.set m d,S.tips⟩ (.tup [])=(.tup [],⟨S.objs.set m d,S.tips⟩):=by
  intro d;by_cases hcd:cE l=d
  ·subst hcd;rw[nT hm,kC];rfl
  ·have hlt:=(aS.1 hm).1;have hlo:=(aS.1 ho).1;exact nS hm (da hm) hcd (i:=o) (by rw[ak hmo];exact ho) hlo hc
 cases f with
 |some f=>
  refine aW UW rfl ?_;by_cases hb:b=[]
  ·subst hb;simp -implicitDefEqProofs [nM,aI,cn,gT,doE];rw[pZ,nT hm,kC];rfl
  ·have hp:=CZ b f l;have hbe:List.isEmpty b=false:=by simpa using hb
   simp -implicitDefEqProofs [nM,aI,cn,gT,doE,hb,hbe,hm,hp,fa]
   rw[pZ];exact fin _
 |none=>
  have hs:=hx rfl;obtain⟨f,hf⟩:=my.1 hs;have h1:=yE a l;rw[show lk a l=some f from hf]at h1;have h2:=UQ a l;have h3:=CZ b f (del a l);simp only at hf;refine aW UW rfl ?_;by_cases hb:b=[]
  ·subst hb;simp -implicitDefEqProofs [nM,aI,cn,gT,doE,hm,h1,h2,hf,fa,jF];rw[pZ];exact fin _
  ·have hbe:List.isEmpty b=false:=by simpa using hb
   simp -implicitDefEqProofs [nM,aI,cn,gT,doE,hm,h1,h2,hf,fa,jF,hb,hbe,da hm,h3];rw[pZ];exact fin _
def yJ(x:di):(cn x).cells=[.str x.1,.str x.2.1,gT x.2.2]:=rfl
@[simp]def aQf(f:Option Nat):(gT f).one=true:=by cases f<;>rfl
def ek{a b c:PV}:ae true 3 [a,b,c]=some (.agg [a,b,c]):=rfl
def UY{sz b:Nat}{S:St}{new:List PV}(h:new≠[])(hb:new.length*b≤140737488355328):fL sz b S .nils new=some (bp S sz new):=by
 have:new.isEmpty=false:=by simpa using h
 simp only[fL,this,cF,if_false,if_pos hb]
def Cf{sz b:Nat}{S:St}{new es:List PV}{k e:Nat}(h:new≠[])(ht:S.tips[k]?=some (e,sz))(hb:(es.length+new.length)*b≤140737488355328) :
  fL sz b S (.sl (some (k,e)) es []) new=some (.sl (some (k,e+new.length)) (es++new) [],{S with tips:=S.tips.set k (e+new.length,sz)}):=by
 have:new.isEmpty=false:=by simpa using h
 simp only[fL,this,cF,if_false,if_pos (And.intro ht hb)]
def fi.tip{S:St}{sz:Nat}{v:PV}{es:List PV}(h:fi S sz v es){k:Nat}(hk:cU v=some k):k<S.tips.length:=by
 rcases h with⟨rfl,_⟩|⟨k',e,rfl,h2⟩
 ·simp[cU]at hk
 ·simp only[cU,bU]at hk;subst hk;exact(aS.1 h2).1
def fi.of{S S':St}{sz:Nat}{v:PV}{es:List PV}(h:fi S sz v es)(ht:∀k,cU v=some k→S'.tips[k]?=S.tips[k]?):fi S' sz v es:=by
 rcases h with h|⟨k',e,rfl,h2⟩
 ·exact .inl h
 ·exact .inr ⟨k',e,rfl,by rw[ht k' rfl];exact h2⟩
def At.entered{S:St}{o K:Nat}{D:Dk}(h:At S o K D){x:di}(hx:x.2.2=none→(lk x.1 D.live).isSome=true)(hf:∀f,x.2.2=some f→f∈D.fl)(hn:x.2.1.length≤24){wv':PV}{tips':List (Nat×Nat)}
  (hw:fi ⟨[],tips'⟩ 3 wv' ((D.wait++[x]).map cn))(htips:∀f∈D.fl,∀k,cU (D.fv f)=some k→tips'[k]?=S.tips[k]?)(htw:∀k,cU wv'=some k→∀f∈D.fl,cU (D.fv f)≠some k) :
  At ⟨(S.objs.set D.li (cE (doE x D.live))).set o (ax {D with wv:=wv'}),tips'⟩ o (K+1) {D with live:=doE x D.live,wait:=D.wait++[x],wv:=wv'} where
 obj:=da (c:=ax D) (by rw[ak (Ne.symm h.nd.2.1)];exact h.obj)
 base:=by
  show((S.objs.set D.li _).set o _)[D.bi]?=_;rw[ak h.nd.1,ak (Ne.symm h.nd.2.2.1)];exact h.base
 live:=by
  show((S.objs.set D.li _).set o _)[D.li]?=_;rw[ak h.nd.2.1];exact da h.live
 wv:=hw.of (fun _ _=>rfl)
 file:=fun f hf'=>by
  obtain⟨h1,h2,h3⟩:=h.file f hf';obtain⟨n1,_,n3⟩:=h.nd.2.2.2 f hf';refine⟨?_,h2.of (fun k hk=>htips f hf' k hk),h3⟩;show((S.objs.set D.li _).set o _)[f]?=_;rw[ak (Ne.symm n1),ak (Ne.symm n3)];exact h1
 inb:=h.inb
 inw:=fun y hy f hyf=>by
  rcases dA.1 hy with hy|hy
  ·exact h.inw y hy f hyf
  ·simp only[se]at hy;subst hy;exact hf f hyf
 nd:=h.nd
 tw:=fun f hf' k hk=>htw k hk f hf'
 tf:=h.tf
 hist:=.snoc _ _ _ _ h.hist hx
 nb:=h.nb
 nw:=fun y hy=>by
  rcases dA.1 hy with hy|hy
  ·exact h.nw y hy
  ·simp only[se]at hy;subst hy;exact hn
 rm:=h.rm
 cnt:=by have:=h.cnt;simp only[List.length_append,bV,cT];omega
 dn:=⟨h.dn.1,by have:=h.dn.2;simp only;omega⟩
 lf:=h.lf
def pK(D:Dk)(k:Nat):Prop:=cU D.wv=some k∨∃f∈D.fl,cU (D.fv f)=some k
structure aAj(S S':St)(D D':Dk):Prop where
 len:S.tips.length≤S'.tips.length
 keep:∀k,k<S.tips.length→¬pK D k→¬pK D' k∧S'.tips[k]?=S.tips[k]?
def iN(D:Dk)(i:Nat):Prop:=i=D.bi∨i=D.li∨i∈D.fl
def uI{D D':Dk}(h1:D'.bi=D.bi)(h2:D'.li=D.li)(h3:D'.fl=D.fl){i:Nat}(h:¬iN D i):¬iN D' i:=by
 unfold iN at h ⊢;rw[h1,h2,h3];exact h
structure aAk(o:Nat)(S S':St)(D D':Dk):Prop where
 obj:∀(i:Nat) (c:List PV),S.objs[i]?=some c→i≠o→¬iN D i→S'.objs[i]?=some c
 own:∀i,i<S.objs.length→i≠o→¬iN D i→¬iN D' i
structure bj(o:Nat)(S S':St)(D D':Dk):Prop where
 t:aAj S S' D D'
 o:aAk o S S' D D'
def bj.len{o:Nat}{S S':St}{D D':Dk}(h:bj o S S' D D'):S.tips.length≤S'.tips.length:=h.t.len
def bj.keep{o:Nat}{S S':St}{D D':Dk}(h:bj o S S' D D'):∀k,k<S.tips.length→¬pK D k→¬pK D' k∧S'.tips[k]?=S.tips[k]?:=h.t.keep
def bj.refl(o:Nat)(S:St)(D:Dk):bj o S S D D:=⟨⟨aj _,fun _ _ h=>⟨h,rfl⟩⟩,⟨fun _ _ h _ _=>h,fun _ _ _ h=>h⟩⟩
def bj.trans{o:Nat}{S S1 S2:St}{D D1 D2:Dk}(h:bj o S S1 D D1)(k:bj o S1 S2 D1 D2):bj o S S2 D D2:=
 ⟨⟨Nat.le_trans h.len k.len,fun i hi ho=>by
  obtain⟨h1,h2⟩:=h.keep i hi ho;obtain⟨k1,k2⟩:=k.keep i (sn hi h.len) h1;exact⟨k1,k2.trans h2⟩⟩,⟨fun i c hc hi hn=>k.o.obj i c (h.o.obj i c hc hi hn) hi (h.o.own i (aS.1 hc).1 hi hn),fun i hi hio hn=>by
  obtain⟨c,hc⟩:∃c,S.objs[i]?=some c:=⟨_,cJ hi⟩;exact k.o.own i (aS.1 (h.o.obj i c hc hio hn)).1 hio (h.o.own i hi hio hn)⟩⟩
def iO(D:Dk):(aX D).bi=D.bi∧(aX D).li=D.li∧(aX D).base=D.base∧(aX D).live=D.live∧(aX D).wait=D.wait∧(aX D).wv=D.wv∧(aX D).fl=D.fl∧(aX D).fb=D.fb∧(aX D).fs=D.fs∧(aX D).fv=D.fv∧(aX D).room=D.room:=by
 unfold aX;split<;>simp
def lI{S:St}{o:Nat}{D:Dk}:bj o S ⟨S.objs.set o (ax (aX D)),S.tips⟩ D (aX D):=by
 obtain⟨b1,b2,_,_,_,h1,h2,_,_,h3,_⟩:=iO D;refine⟨⟨aj _,fun k hk ho=>⟨?_,rfl⟩⟩,⟨fun i c hc hi _=>by simp only;rw[ak (Ne.symm hi)];exact hc,fun i _ _ hn=>uI b1 b2 h2 hn⟩⟩;unfold pK at ho ⊢;rw[h1,h2,h3];exact ho
def rE(D:Dk):cY D=0∨cY D=6:=by unfold cY;split<;>simp
def Cg{S:St}{o K:Nat}{D:Dk}(h:At S o K D)(hK:K≤1048576)(x:di)(hr:cY D=6) :
  aO T 195 [.ptr o 0,cn x] S=some (.int .i64 6,⟨S.objs.set o (ax (aX D)),S.tips⟩):=by
 obtain⟨hs,hA⟩:=jC h hK;rw[hr]at hs;refine aW Ce rfl ?_;simp -implicitDefEqProofs [pI,aI,hs,cd,yJ];exact uG h.obj (lH _)
def Ch{S:St}{o K:Nat}{D:Dk}(h:At S o K D)(hK:K≤1048570)(x:di)(hx:x.2.2=none→(lk x.1 D.live).isSome=true)(hf:∀f,x.2.2=some f→f∈D.fl)(hn:x.2.1.length≤24)(hr:cY D=0) :
  ∃wv' S',aO T 195 [.ptr o 0,cn x] S=some (.int .i64 0,S')∧At S' o (K+2) {aX D with live:=doE x D.live,wait:=D.wait++[x],wv:=wv'}∧bj o S S' D {aX D with live:=doE x D.live,wait:=D.wait++[x],wv:=wv'}:=by
 obtain⟨hs,hA⟩:=jC h (by omega);rw[hr]at hs
 have hD:aX D = {D with left:=if D.left>0 then D.left-1 else D.left,done:=D.done+1}:=by
  unfold aX;unfold cY at hr;split at hr
  ·cases hr
  ·rename_i hc;rw[if_neg hc]
 obtain⟨S1,hS1⟩:∃S1:St,S1=⟨S.objs.set o (ax (aX D)),S.tips⟩:=⟨_,rfl⟩;rw[←hS1]at hs hA;have hob:=hA.obj;have hlv:S1.objs[D.li]?=some (cE D.live):=by have:=hA.live;rw[hD]at this;exact this
 have hnd:=h.nd;have hdo:=UX hlv hob hnd.2.1 (lH _) x hx;simp only[cn]at hdo;obtain⟨S2,hS2⟩:∃S2:St,S2=⟨S1.objs.set D.li (cE (doE x D.live)),S1.tips⟩:=⟨_,rfl⟩;rw[←hS2]at hdo;have hob2:S2.objs[o]?=some (ax (aX D)):=by rw[hS2];simp only;rw[ak (Ne.symm hnd.2.1)];exact hob
 have hob1:=hob;have hcell:ax (aX D)=[.int .i64 D.room,.map D.bi,.map D.li,D.wv,.int .i64 (aX D).left,.int .i64 (aX D).done,.bool (aX D).dark]:=by rw[hD];rfl
 rw[hcell]at hob1 hob2
 have hwv:fi S2 3 D.wv (D.wait.map cn):=by
  have:=hA.wv;rw[hD]at this;rw[hS2];exact this
 have hAt:=fun wv' tips'=>At.entered (wv':=wv') (tips':=tips') hA (x:=x) (by rw[hD];exact hx) (by rw[hD];exact hf) hn;have hobjs:∀wv',S2.objs.set o (ax {aX D with wv:=wv'})=((S1.objs.set (aX D).li (cE (doE x (aX D).live))).set o (ax {aX D with wv:=wv'})):=by intro wv';rw[hS2,hD]
 have htl:S2.tips=S.tips:=by rw[hS2,hS1]
 have htl1:S1.tips=S.tips:=by rw[hS1]
 have hwl:D.wait.length≤K:=Nat.le_trans (Nat.le_add_left _ _) h.cnt;have hc2:∀wv',ax {aX D with wv:=wv'}=[.int .i64 D.room,.map D.bi,.map D.li,wv',.int .i64 (aX D).left,.int .i64 (aX D).done,.bool (aX D).dark]:=fun wv'=>by rw[hD];rfl
 have hfin:∀(wv':PV) (tips':List (Nat×Nat)),ac false S ⟨S2.objs.set o [.int .i64 D.room,.map D.bi,.map D.li,wv',.int .i64 (aX D).left,.int .i64 (aX D).done,.bool (aX D).dark],tips'⟩ (.int .i64 0)=(.int .i64 0,⟨S2.objs.set o [.int .i64 D.room,.map D.bi,.map D.li,wv',.int .i64 (aX D).left,.int .i64 (aX D).done,.bool (aX D).dark],tips'⟩):=by
  intro wv' tips';refine nS h.obj (da hob2) ?_ (i:=o) (da hob2) (aS.1 h.obj).1 (by simp[PV.freeL,PV.free]);intro e;have hdd:(aX D).done=D.done+1:=by rw[hD]
  simp only[ax,kW,PV.int.injEq,true_and]at e;omega
 have hts:∀f∈D.fl,∀k,cU (D.fv f)=some k→k<S.tips.length:=fun f hf k hk=>(h.file f hf).2.1.tip hk;have hflD:(aX D).fl=D.fl:=(iO D).2.2.2.2.2.2.1;have hfvD:(aX D).fv=D.fv:=(iO D).2.2.2.2.2.2.2.2.2.1;have hwtD:(aX D).wait=D.wait:=(iO D).2.2.2.2.1;have hlvD:(aX D).live=D.live:=(iO D).2.2.2.1;rcases hwv with⟨hw,hwn⟩|⟨k,e,hw,htip⟩
 ·rw[hw]at hob1 hob2;have hap:=UY (sz:=3) (b:=40) (S:=⟨S2.objs,S2.tips++[(1,3)]⟩) (new:=[PV.agg [PV.str x.fst,PV.str x.snd.fst,gT x.snd.snd]]) (by simp) (by simp);have hwn':D.wait=[]:=by simpa using hwn
  refine⟨.sl (some (S2.tips.length+1,1)) [cn x] [],⟨S2.objs.set o (ax {aX D with wv:=.sl (some (S2.tips.length+1,1)) [cn x] []}),S2.tips++[(1,3),(1,3)]⟩,aW Ce rfl ?_,?_,?_⟩
  ·simp -implicitDefEqProofs [pI,aI,hs,cd,yJ,ek,aU hob1,hdo,aU hob2,bL,bR,hob2,hap,bp,aR];rw[hc2];exact hfin _ _
  ·rw[hobjs]
   have:=hAt (.sl (some (S2.tips.length+1,1)) [cn x] []) (S2.tips++[(1,3),(1,3)]) (.inr ⟨_,_,by rw[hwtD,hwn'];rfl,by simp⟩)
    (fun f hf k hk=>by
     rw[hflD]at hf;rw[hfvD]at hk;have:=hts f hf k hk;rw[htl,htl1,bP this])
    (fun k hk f hf=>by
     rw[hflD]at hf;rw[hfvD];simp only[cU,bU]at hk;intro hq;have:=hts f hf k hq;rw[htl]at hk;omega)
   rw[hlvD,hwtD]at this;rw[hlvD];exact this
  ·refine⟨⟨by simp only[htl,List.length_append];omega,fun k hk ho=>⟨?_,?_⟩⟩,⟨fun i c hc hi hn=>by
    simp only;rw[ak (Ne.symm hi),hS2];simp only;rw[ak (fun e=>hn (.inr (.inl e.symm))),hS1];simp only;rw[ak (Ne.symm hi)];exact hc,fun i _ _ hn=>uI (iO D).1 (iO D).2.1 hflD hn⟩⟩
   ·rintro(hq|⟨f,hf,hq⟩)
    ·simp only[cU,bU]at hq;rw[htl]at hq;omega
    ·simp only at hf hq;rw[hflD]at hf;rw[hfvD]at hq;exact ho (.inr ⟨f,hf,hq⟩)
   ·simp only[htl];rw[bP hk]
 ·rw[hw]at hob1 hob2;have hk2:k<S2.tips.length:=(aS.1 htip).1
  have hap:=Cf (sz:=3) (b:=40) (S:=⟨S2.objs,S2.tips++[(1,3)]⟩) (es:=D.wait.map cn) (new:=[PV.agg [PV.str x.fst,PV.str x.snd.fst,gT x.snd.snd]]) (k:=k) (e:=e) (by simp)
   (by simp only;rw[bP hk2];exact htip) (by simp;omega)
  refine⟨.sl (some (k,e+1)) (D.wait.map cn++[cn x]) [],⟨S2.objs.set o (ax {aX D with wv:=.sl (some (k,e+1)) (D.wait.map cn++[cn x]) []}),(S2.tips++[(1,3)]).set k (e+1,3)⟩,aW Ce rfl ?_,?_,?_⟩
  ·simp -implicitDefEqProofs [pI,aI,hs,cd,yJ,ek,aU hob1,hdo,aU hob2,bL,bR,hob2,hap,bp,aR];rw[hc2];exact hfin _ _
  ·rw[hobjs];have htw:∀f∈D.fl,cU (D.fv f)≠some k:=fun f hf=>h.tw f hf k (by rw[hw];rfl)
   have:=hAt (.sl (some (k,e+1)) (D.wait.map cn++[cn x]) []) ((S2.tips++[(1,3)]).set k (e+1,3)) (.inr ⟨_,_,by rw[hwtD,eh];rfl,fY (by rw[List.length_append];omega)⟩)
    (fun f hf j hj=>by
     rw[hflD]at hf;rw[hfvD]at hj;have:=hts f hf j hj;have hne:k≠j:=fun e=>htw f hf (by rw[e];exact hj);rw[ak hne,htl,htl1,bP this])
    (fun j hj f hf=>by
     rw[hflD]at hf;rw[hfvD];simp only[cU,bU]at hj;subst hj;exact htw f hf)
   rw[hlvD,hwtD]at this;rw[hlvD];exact this
  ·refine⟨⟨by simp only[htl,GJ,List.length_append];omega,fun j hj ho=>⟨?_,?_⟩⟩,⟨fun i c hc hi hn=>by
    simp only;rw[ak (Ne.symm hi),hS2];simp only;rw[ak (fun e=>hn (.inr (.inl e.symm))),hS1];simp only;rw[ak (Ne.symm hi)];exact hc,fun i _ _ hn=>uI (iO D).1 (iO D).2.1 hflD hn⟩⟩
   ·rintro(hq|⟨f,hf,hq⟩)
    ·simp only[cU,bU]at hq;exact ho (.inl (by rw[hw,←hq];rfl))
    ·simp only at hf hq;rw[hflD]at hf;rw[hfvD]at hq;exact ho (.inr ⟨f,hf,hq⟩)
   ·have hne:k≠j:=fun e=>ho (.inl (by rw[hw,←e];rfl));simp only[htl];rw[ak hne,bP hj]
end Ps
