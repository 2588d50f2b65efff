/- An index's texts, and its bytes. -/
import Derived.Test.YtpjmpaidcidjgaaGreatDoorDefsKb
import Derived.Test.YtpjmpaidcidjgaaGreatDoorBFKb
import Derived.Test.YtpjmpaidcidjgaaGreatDoorCWKb
set_option linter.defProp false
namespace Ps
set_option linter.unusedSimpArgs false
set_option linter.unusedVariables false
open Go
def ia.grows{S0 S:St}{sv:PV}{qs:List PV}{kv:List (K2×PV)}{B:Nat}(h:ia S0 S sv qs kv B):aL S0 S:=by
 refine⟨S.objs.drop S0.objs.length,S.tips.drop S0.tips.length,?_⟩;have e1:=ke S0.objs.length S.objs;have e2:=ke S0.tips.length S.tips;rw[h.pre]at e1;rw[h.tpre]at e2;cases S;simp only at e1 e2;rw[e1,e2]
def ia.push{S0 S:St}{sv:PV}{qs:List PV}{kv:List (K2×PV)}{B:Nat}(h:ia S0 S sv qs kv B)(e:PV)(hb:(qs.length+1)*24≤140737488355328) :
  ∃sv' S',eh 1 24 ⟨S.objs,S.tips++[(1,1)]⟩ sv [e]=some (sv',S')∧S'.objs=S.objs∧ia S0 ⟨S.objs.set (S0.objs.length+1) [sv',.map S0.objs.length],S'.tips⟩ sv' (qs++[e]) kv B:=by
 have htl:=h.tl;obtain⟨v',S',a1,a2,a3,a4,a5,a6,a7,a8⟩:=(h.sets.more ⟨S.objs,S.tips++[(1,1)]⟩ [(1,1)] rfl).push (by simp;omega) e hb;have hp:=h.posts.more ⟨S.objs,S.tips++[(1,1)]⟩ [(1,1)] rfl;have hl:=(aM.1 h.ox).1;refine⟨v',S',a1,a3,⟨?_,?_,?_,fun i q=>?_,?_,?_,a2.more _ [] (by simp),⟨h.posts.keys,fun x hx=>?_,h.posts.dist,fun x hx=>?_⟩⟩⟩
 ·simp only;rw[List.take_set_of_le (by omega)];exact h.pre
 ·simp only;rw[a4];simp only;rw[lO htl];exact h.tpre
 ·simp only[am,bL,cW]at a5 ⊢;omega
 ·simp only[am,bL,cW]at a5 ⊢;rcases a2 with⟨rfl,_⟩|⟨id,_,rfl,k3⟩
  ·cases q
  ·cases q;exact(aM.1 k3).1
 ·simp only;rw[bU (by omega)];exact h.om
 ·exact cK hl
 ·obtain⟨qe,k1,k2,k3⟩:=hp.own x hx;exact⟨qe,(a8 1 x.2 qe k1 (.inr (hp.apart x hx))).more _ [] (by simp),k2,k3⟩
 ·rcases a6 with q|q
  ·rw[q];exact hp.apart x hx
  ·rw[q];intro q2;obtain⟨qe,k1,k2,k3⟩:=hp.own x hx;have:=(k1.lt q2).1;simp only[am,bL,cW]at this;omega
def FQ{T:aV}{f:Nat}{args:List PV}{S:St}{v:PV}(h:aN T f args S=some (v,S)):dP (aN T) .keep f args S=some (v,S):=by
 simp[dP,oS,h,EB]
def jD(ls:List (List aQ))(i:Nat)(h:i<ls.length):Nat:=
 if iJ ls[i]≠0 then iJ ls[i]else if h0:0<i then(if 0≤dp ls[i-1] ls[i]then 13 else 0)else 0
def ib(ls:List (List aQ))(i:Nat):Nat:=
 if h:i<ls.length then(if jD ls i h=0 then ib ls (i+1)else jD ls i h)else 0
termination_by ls.length-i
def dZ(ls:List (List aQ)):Nat:=if 256<ls.length then 3 else ib ls 0
def Wp{ls:List (List aQ)}{v:PV}{es:List PV}(hv:cM 1 v es)(hlen:es.length=ls.length)(hes:∀(i:Nat)(h:i<ls.length)(h':i<es.length),ba 2 es[i] (ls[i].map bH))(hb:∀l∈ls,l.length≤maxLen∧∀x∈l,x.1.length≤maxLen)(hN:ls.length≤256)
  {S0:St}{K:List Kt}{Q:Fr→St→Prop}:∀(n i:Nat),ls.length-i=n→i≤ls.length→∀(fr:Fr) (S:St) (sv:PV) (qs:List PV) (kv:List (K2×PV)),
  fr 0=v→fr 4=.ptr (S0.objs.length+1) 0→fr 17=v→fr 18=.int .i64 ls.length→fr 19=.int .i64 i→ia S0 S sv qs kv (8*i)→qs.length=i→(∀(j:Nat) (h:j<ls.length) (h':j<qs.length),ay 2 qs[j] (ls[j].map bH)) →
  (∀k,k∈kv.map (·.1)↔∃l∈ls.take i,k∈l.map fW) →
  (ib ls i=0→∀fr' S' sv' qs' kv',fr' 4=.ptr (S0.objs.length+1) 0→ia S0 S' sv' qs' kv' (8*ls.length)→qs'.length=ls.length→(∀(j:Nat) (h:j<ls.length) (h':j<qs'.length),ay 2 qs'[j] (ls[j].map bH)) →
   (∀k,k∈kv'.map (·.1)↔∃l∈ls,k∈l.map fW)→Ok (aE T K fr' S') Q) →
  (ib ls i≠0→∀fr' S',aL S0 S'→fr' 2=.nilp→fr' 3=.int .i64 (ib ls i)→Q fr' S')→Ok (aE T (.lp vc::.blk 0::K) fr S) Q:=by
 intro n
 induction n with
 |zero=>
  intro i hni hil fr S sv qs kv h0 h4 h17 h18 h19 hA hq hqs hk k1 k2;have hi:i=ls.length:=by omega
  have hc:ib ls i=0:=by rw[ib,dif_neg (by omega)]
  rw[ax];simp -implicitDefEqProofs [h17,h18,h19,hi];refine k1 hc _ _ sv qs kv (by simp[h4]) (by rw[←hi];exact hA) (by omega) hqs (fun q=>?_)
  rw[hk q,hi,kf]
 |succ n ih=>
  intro i hni hil fr S sv qs kv h0 h4 h17 h18 h19 hA hq hqs hk k1 k2;have hi:i<ls.length:=by omega
  have hie:i<es.length:=by omega
  have hget:=hv.get i hie .i64;have hsl:=hes i hi hie;obtain⟨o1,o2⟩:=hsl.one;rw[o2]at hget;have hbi:=hb ls[i] (List.getElem_mem hi);have hchk:=fun S=>VY hsl.reads hbi.2 hbi.1 S;have hw:IntKind.i64.wrap ((i:Int)+1)=((i+1:Nat):Int):=by rw[au]<;>omega
  have hp1:∀{a:PV} {m:List PV},bG false 1 (a::m)=some a:=fun {a m}=>by simp[bG]
  rw[ib,dif_pos hi]at k1 k2;have hlen2:=hsl.len;rw[bz]at hlen2
  have main:iJ ls[i]=0→jD ls i hi=0→∀fr':Fr,fr' 0=v→fr' 4=.ptr (S0.objs.length+1) 0→fr' 5=.int .i64 i→fr' 6=es[i]→fr' 17=v→fr' 18=.int .i64 ls.length→fr' 19=.int .i64 i →
    Ok (aE T (.ops AA::.clr [(41,52)]::.code ((aS.region AB).seq (aS.block 2 vb.loop))::.blk 1::.code (.clr [(75,76)] (.region AD))::.lp vc::.blk 0::K) fr' S) Q:=by
   intro hc0 hs0 fr' g0 g4 g5 g6 g17 g18 g19
   have hl8:ls[i].length≤8:=by
    unfold iJ at hc0;split at hc0
    ·cases hc0
    ·omega
   obtain⟨lv',hcl,hcl2⟩:=FP hsl (by omega);obtain⟨c1,c2⟩:=hcl2.one;have hkp:=fun S=>FQ (hcl S);obtain⟨sv',S',a1,a2,a3⟩:=hA.push lv' (by omega);have hox:∀t,dD ⟨S.objs,t⟩ false 1 (.ptr (S0.objs.length+1) 0)=some sv:=fun t=>by rw[bI (S:=⟨S.objs,t⟩) hA.ox];simp[hp1]
   have hox0:dD S false 1 (.ptr (S0.objs.length+1) 0)=some sv:=hox S.tips;have hxo:=hA.ox;obtain⟨q1,q2⟩:=a3.sets.one;simp -implicitDefEqProofs [g0,g4,g5,g6,g17,g18,g19,hox0,hkp,aG,cY,dU,c1,c2,a1,a2,hxo,ak,hlen2,q1,q2]
   refine Wn (v:=v) (i:=i) (N:=ls.length) hsl.reads hl8 ls[i].length 0 (by omega) (by omega) (8*i) _ _ kv (by simp[g0]) (by simp[g4]) (by simp[g5]) (by simp[g17]) (by simp[g18]) (by simp[g19]) (by simp) (by simp) (by simp) a3 (by omega)
    (fun fr2 S2 kv2 e0 e4 e17 e18 e19 eA ek=>?_)
   rw[if_pos hs0]at k1 k2;simp -implicitDefEqProofs [e19];refine ih (i+1) (by omega) (by omega) _ S2 sv' (qs++[lv']) kv2 (by simp[e0]) (by simp[e4]) (by simp[e17]) (by simp[e18]) (by simp[hw]) ⟨eA.pre,eA.tpre,eA.tl,eA.swt,eA.om,eA.ox,eA.sets,eA.posts.le (by omega)⟩ (by simp[hq]) (fun j h h'=>?_) (fun q=>?_) k1 k2
   ·simp only[am,bL,cW]at h';by_cases hj:j<qs.length
    ·rw[List.getElem_append_left hj];exact hqs j h hj
    ·have:j=i:=by omega
     subst this;rw[List.getElem_append_right (by omega)];simpa[hq]using hcl2
   ·rw[ek q,hk q,jz,List.take_succ_eq_append_getElem hi];constructor
    ·rintro(⟨l,hl,hm⟩|hm)
     ·exact⟨l,bg.2 (.inl hl),hm⟩
     ·exact⟨ls[i],bg.2 (.inr (jW.2 rfl)),hm⟩
    ·rintro⟨l,hl,hm⟩;rcases bg.1 hl with hl|hl
     ·exact .inl ⟨l,hl,hm⟩
     ·simp only[jW]at hl;subst hl;exact .inr hm
  by_cases hc0:iJ ls[i]=0
  rotate_left
  ·have hs:jD ls i hi=iJ ls[i]:=by rw[jD,if_pos hc0]
   rw[if_neg (by rw[hs];exact hc0),hs]at k2;have hcb:(((iJ ls[i]:Nat):Int) != 0)=true:=by simpa using hc0
   rw[ax];simp -implicitDefEqProofs [h0,h4,h17,h18,h19,hi,hget,hp1,hchk,hcb];refine k2 hc0 _ _ hA.grows ?_ ?_<;>simp
  by_cases hi0:0<i
  ·have hiep:i-1<es.length:=by omega
   have hslp:=hes (i-1) (by omega) hiep;have hgetp:=hv.get (i-1) hiep .i64;rw[hslp.one.2]at hgetp;have hsub:IntKind.i64.wrap ((i:Int)-1)=((i-1:Nat):Int):=by rw[au]<;>omega
   have hcmp:=fun S=>WB hslp.reads hsl.reads (hb ls[i-1] (List.getElem_mem (by omega))).1 S;by_cases hle:0≤dp ls[i-1] ls[i]
   ·have hs:jD ls i hi=13:=by rw[jD,if_neg (by simp[hc0]),dif_pos hi0,if_pos hle]
    rw[if_neg (by rw[hs];decide),hs]at k2;rw[ax];simp -implicitDefEqProofs [h0,h4,h17,h18,h19,hi,hget,hp1,hchk,hc0,hi0,hgetp,hsub,hcmp,hle];exact k2 (by decide) _ _ hA.grows (by simp) (by simp)
   ·have hs:jD ls i hi=0:=by rw[jD,if_neg (by simp[hc0]),dif_pos hi0,if_neg hle]
    rw[ax];simp -implicitDefEqProofs [-JB,h0,h4,h17,h18,h19,hi,hget,hp1,hchk,hc0,hi0,hgetp,hsub,hcmp,hle];exact main hc0 hs _ (by simp[h0]) (by simp[h4]) (by simp) (by simp) (by simp[h17]) (by simp[h18]) (by simp[h19])
  ·have hs:jD ls i hi=0:=by rw[jD,if_neg (by simp[hc0]),dif_neg hi0]
   rw[ax];simp -implicitDefEqProofs [-JB,h0,h4,h17,h18,h19,hi,hget,hp1,hchk,hc0,hi0];exact main hc0 hs _ (by simp[h0]) (by simp[h4]) (by simp) (by simp) (by simp[h17]) (by simp[h18]) (by simp[h19])
structure eD(S:St)(p:PV)(ls:List (List aQ)):Prop where
 at_:∃(ox om n0:Nat) (sv:PV) (qs:List PV) (kv:List (K2×PV)),p=.ptr ox 0∧ox≠om∧S.objs[ox]?=some [sv,.map om]∧S.objs[om]?=some (cR kv)∧fL S 1 n0 sv qs∧qs.length=ls.length ∧
  (∀(j:Nat) (h:j<ls.length) (h':j<qs.length),ay 2 qs[j] (ls[j].map bH))∧(kv.map (·.1)).Nodup∧∀k,k∈kv.map (·.1)↔∃l∈ls,k∈l.map fW
def yS{objs:List (List PV)}{n0 k id:Nat}:ai objs n0 k (.map id)=none:=by
 cases k with
 |zero=>rfl
 |succ k=>simp[ai,PV.free]
def ra{ls:List (List aQ)}{v:PV}(hv:yO v ls)(hb:∀l∈ls,l.length≤maxLen∧∀x∈l,x.1.length≤maxLen)(hN:ls.length≤maxLen)(S:St) :
  (dZ ls≠0→aN T 51 [v] S=some (.tup [.nilp,.int .i64 (dZ ls)],S)) ∧
  (dZ ls=0→∃S',aN T 51 [v] S=some (.tup [.ptr (S.objs.length+1) 0,.int .i64 0],S')∧aL S S'∧eD S' (.ptr (S.objs.length+1) 0) ls):=by
 obtain⟨es,hes,hlen,hel⟩:=hv;have hvl:=hes.len;rw[hlen]at hvl;by_cases hbig:256<ls.length
 ·have hn:dZ ls=3:=by rw[dZ,if_pos hbig]
  have hc:(256:Int)<(ls.length:Int):=by omega
  refine⟨fun _=>?_,fun h=>by rw[hn]at h;cases h⟩;rw[hn];refine bZ yR rfl ?_;simp -implicitDefEqProofs [oM,hvl,hc];exact cZ (aL.refl S) rfl
 ·have hn:dZ ls=ib ls 0:=by rw[dZ,if_neg hbig]
  have hc:¬(256:Int)<(ls.length:Int):=by omega
  rw[hn]
  have main:∀Q:Fr→St→Prop,(ib ls 0=0→∀fr' S' sv' qs' kv',fr' 2=.ptr (S.objs.length+1) 0→fr' 3=.int .i64 0→ia S S' sv' qs' kv' (8*ls.length)→qs'.length=ls.length→(∀(j:Nat) (h:j<ls.length) (h':j<qs'.length),ay 2 qs'[j] (ls[j].map bH)) →
   (∀k,k∈kv'.map (·.1)↔∃l∈ls,k∈l.map fW)→Q fr' S') →
   (ib ls 0≠0→∀fr' S',aL S S'→fr' 2=.nilp→fr' 3=.int .i64 (ib ls 0)→Q fr' S')→Ok (aE T [.code oM.body] (bk [v]) S) Q:=by
   intro Q k1 k2;simp -implicitDefEqProofs [oM,hvl,hc,aG,aR,dx,ak]
   refine Wp hes.reads hlen hel hb (by omega) ls.length 0 (by omega) (by omega) _ _ .nils [] [] (by simp) (by simp) (by simp) (by simp) (by simp)
    ⟨by simp,by simp,by simp,fun i e=>(by cases e),by simp[cR],by simp,FE _ _ _,⟨by simp,fun e he=>(by simp at he),.nil,fun e he=>(by simp at he)⟩⟩ rfl (fun j h h'=>by simp at h') (fun k=>by simp) (fun hz fr' S' sv' qs' kv' g4 gA gq gqs gk=>?_) k2
   simp -implicitDefEqProofs [g4];exact k1 hz _ _ sv' qs' kv' (by simp) (by simp) gA gq gqs gk
  refine⟨fun hne=>?_,fun hz=>?_⟩
  ·refine bZ yR rfl (main _ (fun h=>absurd h hne) (fun _ fr' S' hg h2 h3=>⟨[fr' 2,fr' 3],rfl,?_⟩));rw[h2,h3];exact cZ hg rfl
  ·obtain⟨⟨fr',S'⟩,hgv,sv',qs',kv',h2,h3,hA,hq,hqs,hk⟩:=main (fun fr' S'=>∃sv' qs' kv',fr' 2=.ptr (S.objs.length+1) 0∧fr' 3=.int .i64 0∧ia S S' sv' qs' kv' (8*ls.length)∧qs'.length=ls.length ∧
    (∀(j:Nat) (h:j<ls.length) (h':j<qs'.length),ay 2 qs'[j] (ls[j].map bH))∧(∀k,k∈kv'.map (·.1)↔∃l∈ls,k∈l.map fW)) (fun _ fr' S' sv' qs' kv' a b c d e f=>⟨sv',qs',kv',a,b,c,d,e,f⟩) (fun h=>absurd hz h)
   simp only at h2 h3 hA
   have hfin:aW false S S' (bb [fr' 2,fr' 3])=(.tup [.ptr (S.objs.length+1) 0,.int .i64 0],S'):=by
    rw[h2,h3]
    have hs:ai S'.objs S.objs.length eU (.tup [.ptr (S.objs.length+1) 0,.int .i64 0])=none:=by
     show ai S'.objs S.objs.length (39+1) _=none;unfold ai
     have hp:ai S'.objs S.objs.length 39 (.ptr (S.objs.length+1) 0)=none:=by
      show ai S'.objs S.objs.length (38+1) _=none;unfold ai
      have hm:cc (ai S'.objs S.objs.length 38) [sv',.map S.objs.length]=none:=by
       simp only[cc,yS];cases ai S'.objs S.objs.length 38 sv'<;>rfl
      simp[PV.free,hA.ox,hm]
     simp[PV.free,PV.freeL,cc,hp]
    simp only[bb,aW,cH,if_false,hs]
   refine⟨S',bZ yR rfl ⟨(fr',S'),hgv,[fr' 2,fr' 3],rfl,hfin⟩,hA.grows,⟨S.objs.length+1,S.objs.length,S.tips.length,sv',qs',kv',rfl,by omega,hA.ox,hA.om,hA.sets,hq,hqs,hA.posts.keys,hk⟩⟩
end Ps
set_option linter.defProp false
namespace Ps
set_option linter.unusedSimpArgs false
set_option linter.unusedVariables false
open Go
abbrev Wd:=List UInt8
def cC:List (Wd×Nat)→List PV
 | []=>[]
 |(q,n)::l=>.str q::.int .i64 (n:Int)::cC l
def iN(k:Wd):List (Wd×Nat)→Option Nat
 | []=>none
 |(q,n)::l=>if k==q then some n else iN k l
def eT(k:Wd)(n:Nat):List (Wd×Nat)→List (Wd×Nat)
 | []=>[(k,n)]
 |(q,u)::l=>if k==q then(k,n)::l else(q,u)::eT k n l
theorem Ff:∀l:List (Wd×Nat),(cC l).length=2*l.length
 | []=>rfl
 |(q,u)::l=>by simp only[cC,bL,Ff l];omega
theorem Fg(k:Wd):∀l:List (Wd×Nat),kI (.str k) (cC l)=some ((iN k l).map fun n=>.int .i64 (n:Int))
 | []=>rfl
 |(q,f)::l=>by
  simp only[cC,kI,mz,iN];cases h:(k==q)
  ·simpa using Fg k l
  ·simp
theorem vA(k:Wd)(n:Nat):∀l:List (Wd×Nat),iQ (.str k) (.int .i64 (n:Int)) (cC l)=some (cC (eT k n l))
 | []=>rfl
 |(q,u)::l=>by
  simp only[cC,iQ,mz,eT];cases h:(k==q)
  ·simp only[vA k n l];rfl
  ·simp[Ff,cC]
theorem Fh:∀l:List (Wd×Nat),oa (cC l)=some (l.map (·.1))
 | []=>rfl
 |(q,u)::l=>by simp only[cC,oa,Fh l,cb]
def Fi(k:Wd)(n:Nat)(l:List (Wd×Nat)):(eT k n l).map (·.1)=if k∈l.map (·.1)then l.map (·.1)else l.map (·.1)++[k]:=by
 induction l with
 |nil=>simp[eT]
 |cons e l ih=>
  obtain⟨q,u⟩:=e;by_cases h:k=q
  ·subst h;simp[eT]
  ·have hb:(k==q)=false:=by simpa using h
   simp only[eT,hb,cH,if_false,cb,ih,dI,h,false_or];split<;>simp
def Fj{k:Wd}{n:Nat}{l:List (Wd×Nat)}(h:(l.map (·.1)).Nodup):((eT k n l).map (·.1)).Nodup:=by
 rw[Fi];split
 ·exact h
 ·rename_i hk;rw[Ea];exact⟨h,by simp,fun a ha b hb=>by simp at hb;subst hb;exact fun e=>hk (e▸ha)⟩
def Fk{k q:Wd}{n:Nat}{l:List (Wd×Nat)}:q∈(eT k n l).map (·.1)↔q=k∨q∈l.map (·.1):=by
 rw[Fi];split
 ·rename_i h;exact⟨.inr,fun h'=>h'.elim (fun e=>e▸h) id⟩
 ·simp only[bg,jW];exact⟨fun h=>h.symm,fun h=>h.symm⟩
theorem Fl{k q:Wd}{n:Nat}:∀{l:List (Wd×Nat)},iN q (eT k n l)=if q=k then some n else iN q l
 | []=>by
  simp only[eT,iN];by_cases h:q=k
  ·subst h;simp
  ·have:(q==k)=false:=by simpa using h
   simp[this,h]
 |(r,u)::l=>by
  simp only[eT];by_cases h:k=r
  ·subst h;simp only[beq_self_eq_true,if_true,iN];by_cases e:q=k
   ·subst e;simp
   ·have:(q==k)=false:=by simpa using e
    simp[this,e]
  ·have hb:(k==r)=false:=by simpa using h
   simp only[hb,cH,if_false,iN];by_cases e:q=r
   ·subst e;simp only[beq_self_eq_true,if_true];rw[if_neg (fun e=>h e.symm)]
   ·have:(q==r)=false:=by simpa using e
    simp only[this,cH,if_false];exact Fl
def iO:List Wd→List Wd
 | []=>[]
 |a::l=>if a∈iO l then iO l else a::iO l
theorem re{a:Wd}:∀{l:List Wd},a∈iO l↔a∈l
 | []=>by simp[iO]
 |b::l=>by
  simp only[iO];split
  ·rename_i h;rw[re,dI];exact⟨.inr,fun h'=>h'.elim (fun e=>e▸re.1 h) id⟩
  ·simp[re]
theorem vB:∀l:List Wd,(iO l).Nodup
 | []=>by simp[iO]
 |a::l=>by
  simp only[iO];split
  ·exact vB l
  ·rename_i h;exact pV.2 ⟨h,vB l⟩
def dv(ls:List (List aQ)):List Wd:=ls.flatMap fun l=>l.flatMap fun x=>[x.1,x.2.1]
def bM(ls:List (List aQ)):List Wd:=(iO (dv ls)).mergeSort leB
def Xv{ls:List (List aQ)}{ks:List Wd}(hn:ks.Nodup)(hm:∀k,k∈ks↔k∈dv ls):ks.mergeSort leB=bM ls:=by
 have hp:ks.Perm (iO (dv ls)):=(List.perm_ext_iff_of_nodup hn (vB _)).2 (fun a=>by rw[hm,re]);exact mergeSort_of_perm hp
def po{ls:List (List aQ)}{k:Wd}:k∈bM ls↔k∈dv ls:=by
 unfold bM;rw[List.mem_mergeSort,re]
def Xw(ls:List (List aQ)):(bM ls).Nodup:=(List.mergeSort_perm _ _).nodup_iff.2 (vB _)
def eG(ls:List (List aQ))(s:Wd):Nat:=(bM ls).idxOf s
def cU(ls:List (List aQ)):List UInt8:=
 aj (bM ls).length++(bM ls).flatMap cQ++aj ls.length++ls.flatMap fun l=>aj l.length++l.flatMap fun x=>aj (eG ls x.1)++aj (eG ls x.2.1)
end Ps
set_option linter.defProp false
namespace Ps
set_option linter.unusedSimpArgs false
set_option linter.unusedVariables false
open Go Go.Proofs
structure ya(O:List (List PV))(T0:List (Nat×Nat))(done:List K2)(pl:List (Wd×Nat))(S:St):Prop where
 st:∃xs,S=⟨O++[cC pl]++xs,T0⟩
 nd:(pl.map (·.1)).Nodup
 mem:∀k,k∈pl.map (·.1)↔∃e∈done,k=e.1∨k=e.2
def Xx{O:List (List PV)}{T0:List (Nat×Nat)}{Post:Fr→St→Prop}:∀(N:Nat) (ps:List (PV×PV)) (rem done:List K2) (pl:List (Wd×Nat)) (fr:Fr) (S:St),(ps.map (·.1)).Perm (rem.map fM)→rem.length=N →
  ya O T0 done pl S→fr 4=.map O.length→(∀fr' S' pl' done',fr' 4=.map O.length→ya O T0 done' pl' S'→(∀e,e∈done'↔e∈done∨e∈rem)→Post fr' S') →
  pN tie (uB oH) 17 ry oH sA Post N ps fr S:=by
 intro N
 induction N with
 |zero=>
  intro ps rem done pl fr S hp hr hA h4 hQ;have hr':rem=[]:=jV.1 hr;subst hr';have hps:ps=[]:=by simpa using hp
  subst hps
  exact⟨rfl,hQ fr S pl done h4 hA (fun e=>by simp)⟩
 |succ N ih=>
  intro ps rem done pl fr S hp hr hA h4 hQ;refine aFc ?_;intro k v rem' r hpp;have hmem:k∈rem.map fM:=hp.mem_iff.1 ((hpp.map (·.1)).mem_iff.2 (by simp));obtain⟨e,he,rfl⟩:=List.mem_map.1 hmem;have hpr:rem.Perm (e::rem.erase e):=Ec he
  have hp2:(rem'.map (·.1)).Perm ((rem.erase e).map fM):=by
   have h1:=((hpp.map (·.1)).symm.trans hp).trans (hpr.map _);simpa using h1
  obtain⟨a,b⟩:=e;obtain⟨⟨xs,rfl⟩,hnd,hmm⟩:=hA
  have hA2:ya O T0 (done++[(a,b)]) (eT b 0 (eT a 0 pl)) ⟨O++[cC (eT b 0 (eT a 0 pl))]++(xs++[[.str a,.str b]]),T0⟩:=by
   refine⟨⟨_,rfl⟩,Fj (Fj hnd),fun k=>?_⟩;rw[Fk,Fk,hmm];constructor
   ·rintro(rfl|rfl|⟨e,he,h⟩)
    ·exact⟨(a,k),by simp,.inr rfl⟩
    ·exact⟨(k,b),by simp,.inl rfl⟩
    ·exact⟨e,by simp[he],h⟩
   ·rintro⟨e,he,h⟩;rcases bg.1 he with he|he
    ·exact .inr (.inr ⟨e,he,h⟩)
    ·simp at he;subst he;rcases h with h|h
     ·exact .inr (.inl h)
     ·exact .inl h
  have hnext:∀fr':Fr,fr' 4=.map O.length→pN tie (uB oH) 17 ry oH sA Post N rem' fr' ⟨O++cC (eT b 0 (eT a 0 pl))::(xs++[[.str a,.str b]]),T0⟩:=by
   intro fr' h4'
   have:=ih rem' (rem.erase (a,b)) (done++[(a,b)]) _ fr' _ hp2 (by have:=hpr.length_eq;simp at this;omega) hA2 h4' (fun fr2 S2 pl2 done2 g4 gA gm=>hQ fr2 S2 pl2 done2 g4 gA (fun e=>by
    rw[gm e,hpr.mem_iff];simp only[bg,dI,xr,or_false];constructor
    ·rintro((h|h)|h)
     ·exact .inl h
     ·exact .inr (.inl h)
     ·exact .inr (.inr h)
    ·rintro(h|h|h)
     ·exact .inl (.inl h)
     ·exact .inl (.inr h)
     ·exact .inr h))
   simpa using this
  have hn:∀c:List PV,(O++c::(xs++[[PV.str a,.str b]]))[O.length+(xs.length+1)]?=some [.str a,.str b]:=fun c=>by
   rw[fU (by omega)];simp
  have ht:∀c:List PV,(O++c::(xs++[[PV.str a,.str b]]))[O.length]?=some c:=fun c=>by simp
  have hset:∀c d:List PV,(O++c::(xs++[[PV.str a,.str b]])).set O.length d=O++d::(xs++[[PV.str a,.str b]]):=fun c d=>by simp
  have hld:∀(c:List PV) (j:Nat),dD ⟨O++c::(xs++[[PV.str a,.str b]]),T0⟩ false 1 (.ptr (O.length+(xs.length+1)) j)=bG false 1 ([PV.str a,.str b].drop j):=fun c j=>bI (hn c);have hm1:iQ (.str a) (.int .i64 0) (cC pl)=some (cC (eT a 0 pl)):=vA a 0 pl;have hm2:iQ (.str b) (.int .i64 0) (cC (eT a 0 pl))=some (cC (eT b 0 (eT a 0 pl))):=vA b 0 (eT a 0 pl);have hni:(O.length+(xs.length+1) != O.length)=true:=by simp
  simp -implicitDefEqProofs [ZA,fM,aG,bt,ak];refine kZ tieOk rfl ?_;simp -implicitDefEqProofs [lY,ZC,ZB,h4,hld,bD,aG,ht,hm1,hm2,qH,hni,hset,oH,uB,fY];exact hnext _ (by simp[h4])
def jb(l:List Wd):PV:=if l.isEmpty then .nils else .sl none (l.map .str) []
def vC(l:List Wd):ay 1 (jb l) (l.map .str):=by
 unfold jb
 cases l with
 |nil=>exact jn 1
 |cons a r=>exact od (fun e he=>by obtain⟨x,_,rfl⟩:=List.mem_map.1 he;rfl) (jp _ (fun _=>rfl) _) (jq _ (fun _=>rfl) _)
def Xy:T.fn 314=some (.code z27):=rfl
def Xz:T.fn 199=some (.exs (qO 362)):=rfl
def vD{T:aV}{f:Nat}{e:List PV→St→Option (PV×St)}(hf:T.fn f=some (.exs e)){args:List PV}{S:St}{r:PV×St}(h:e args S=some r):aN T f args S=some r:=by
 exact tQ 1 (by simp only[bV,hf];exact h)
def YA{S:St}{m:Nat}:aN T 314 [.map m] S=some (.fn 362 [.ptr S.objs.length 0],⟨S.objs++[[.map m]],S.tips⟩):=by
 refine bZ Xy rfl ?_;simp -implicitDefEqProofs [z27,aG,bt];unfold aW
 have:ai (S.objs++[[PV.map m]]) S.objs.length eU (.fn 362 [.ptr S.objs.length 0])=none:=by
  have a1:ai (S.objs++[[PV.map m]]) S.objs.length 38 (.map m)=none:=rfl
  have a2:ai (S.objs++[[PV.map m]]) S.objs.length 39 (.ptr S.objs.length 0)=none:=by
   rw[ai];simp only[PV.free,cH,if_false,aU,if_true];simp[cc,a1]
  show ai (S.objs++[[PV.map m]]) S.objs.length (39+1) (.fn 362 [.ptr S.objs.length 0])=none;rw[ai];simp only[PV.free,PV.freeL,Bool.false_and,cH,if_false];simp only[cc,a2]
 simp[this]
def YB{S:St}{m:Nat}{l:List (Wd×Nat)}(hm:S.objs[m]?=some (cC l))(hl:l.length≤1048576)(hn:∀p∈l,p.1.length≤maxLen) :
  aN T 199 [.fn 362 [.ptr S.objs.length 0]] ⟨S.objs++[[.map m]],S.tips⟩=some (jb ((l.map (·.1)).mergeSort leB),⟨S.objs++[[.map m]],S.tips⟩):=by
 refine vD Xz ?_;have h1:(S.objs++[[PV.map m]])[S.objs.length]?=some [PV.map m]:=by simp
 have h2:(S.objs++[[PV.map m]])[m]?=some (cC l):=by rw[bK (aM.1 hm).1];exact hm
 have h3:(l.map (·.1)).length≤1048576∧(l.map (·.1)).all (fun k=>decide (k.length≤maxLen))=true:=by
  refine⟨by simpa using hl,?_⟩;simp only[List.all_eq_true,List.mem_map,decide_eq_true_eq];rintro k ⟨p,hp,rfl⟩;exact hn p hp
 simp only[qO,if_true,h1,h2,Fh,if_pos h3]
 have:((l.map (·.1)).mergeSort leB).isEmpty=(l.map (·.1)).isEmpty:=by
  cases h:l.map (·.1)with
  |nil=>rw[List.mergeSort_nil]
  |cons a r=>
   have:=EZ (le:=leB) (a::r)
   cases hq:(a::r).mergeSort leB with
   |nil=>rw[hq]at this;simp at this
   |cons _ _=>rfl
 unfold jb;rw[this]
theorem Fm:∀l:List (K2×PV),jf (cR l)=l.map fun e=>(fM e.1,e.2)
 | []=>rfl
 |e::l=>by
  have:cR (e::l)=fM e.1::e.2::cR l:=rfl;rw[this,jf,Fm l,cb]
def YC{S S1:St}{v:PV}{t:Nat}:aW false S S1 (.tup [v,.map t])=(.tup [v,.map t],S1):=by
 have a1:∀k,ai S1.objs S.objs.length k (.map t)=none:=fun k=>by cases k<;>rfl
 have:ai S1.objs S.objs.length eU (.tup [v,.map t])=none:=by
  show ai _ _ (39+1) _=none;rw[ai,if_neg (by simp[PV.free,PV.freeL])]
  have:cc (ai S1.objs S.objs.length 39) [v,.map t]=none:=by
   simp only[cc,a1];split<;>rfl
  simp only[this]
 simp[aW,this]
def YD{L:List Wd}(hnd:L.Nodup)(hL:L.length≤4000000000){B:List (List PV)}{T0:List (Nat×Nat)}{t:Nat}(htl:t<B.length){K:List Kt}{Q:Fr→St→Prop}{fr:Fr}{pl:List (Wd×Nat)}(hB:B[t]?=some (cC pl))
  (h28:fr 28=jb L)(h29:fr 29=.int .i64 (L.length:Int))(h4:fr 4=.map t)(h6:fr 6=jb L)(h30:fr 30=.int .i64 0)
  (kk:∀fr' pl',fr' 4=.map t→fr' 6=jb L→(∀(i:Nat)(h:i<L.length),iN L[i] pl'=some i)→Ok (aE T K fr' ⟨B.set t (cC pl'),T0⟩) Q) :
  Ok (aE T (.lp BQ::.blk 2::K) fr ⟨B,T0⟩) Q:=by
 refine jm L.length (fun i fr' S'=>fr' 28=jb L∧fr' 29=.int .i64 (L.length:Int)∧fr' 4=.map t∧fr' 6=jb L∧fr' 30=.int .i64 (i:Int)∧∃pl',S'=⟨B.set t (cC pl'),T0⟩∧∀(j:Nat) (h:j<L.length),j<i→iN L[j] pl'=some j) ?_ ?_ 0 (cP _) _ _
  ⟨h28,h29,h4,h6,by simpa using h30,pl,by
   have:B.set t (cC pl)=B:=by
    apply iV;intro i;rw[lM];split
    ·rename_i e;subst e;rw[hB]
    ·rfl
   rw[this],fun j h hj=>absurd hj (Nat.not_lt_zero j)⟩
 ·rintro i fr' S' hi ⟨g28,g29,g4,g6,g30,pl',rfl,hp⟩ k;have hg:=(vC L).reads.get i (by simpa using hi) .i64;have hgx:(L.map PV.str)[i]'(by simpa using hi)=.str L[i]:=by simp
  rw[hgx]at hg;have hcs:(PV.str L[i]).cells=[.str L[i]]:=rfl;rw[hcs]at hg;have hw:IntKind.i64.wrap ((i:Int)+1)=((i+1:Nat):Int):=by rw[au]<;>omega
  have hlt:(i:Int)<(L.length:Int):=by omega
  have ht:(B.set t (cC pl'))[t]?=some (cC pl'):=cK htl;have hm:=vA L[i] i pl';have hss:(B.set t (cC pl')).set t (cC (eT L[i] i pl'))=B.set t (cC (eT L[i] i pl')):=uS ..;rw[ax];simp -implicitDefEqProofs [g28,g29,g4,g6,g30,hg,hlt,hi,bD,aG,ht,hm,fY,hss];refine k _ _ ⟨by simp[g28],by simp[g29],by simp[g4],by simp[g6],by simp[hw],_,rfl,fun j hj hji=>?_⟩;rw[Fl];by_cases e:j=i
  ·subst e;rw[if_pos rfl]
  ·rw[if_neg (fun q=>e ((List.getElem_inj hnd).1 q))];exact hp j hj (by omega)
 ·rintro fr' S' ⟨g28,g29,g4,g6,g30,pl',rfl,hp⟩;rw[ax];simp -implicitDefEqProofs [g29,g30];exact kk _ pl' (by simp[g4]) (by simp[g6]) (fun i h=>hp i h h)
end Ps
set_option linter.defProp false
namespace Ps
set_option linter.unusedSimpArgs false
set_option linter.unusedVariables false
open Go Go.Proofs
def YE{ls:List (List aQ)}{kv:List (K2×PV)}(hk:∀k,k∈kv.map (·.1)↔∃l∈ls,k∈l.map fW)(w:Wd):(∃e∈kv.map (·.1),w=e.1∨w=e.2)↔w∈dv ls:=by
 unfold dv;simp only[List.mem_flatMap];constructor
 ·rintro⟨e,he,hw⟩;obtain⟨l,hl,hx⟩:=(hk e).1 he;obtain⟨x,hx',rfl⟩:=List.mem_map.1 hx;refine⟨l,hl,x,hx',?_⟩;simp only[fW]at hw;rcases hw with rfl|rfl<;>simp
 ·rintro⟨l,hl,x,hx,hw⟩;refine⟨fW x,(hk _).2 ⟨l,hl,List.mem_map.2 ⟨x,hx,rfl⟩⟩,?_⟩;simpa[fW]using hw
def YF(ls:List (List aQ))(S:St)(r:Rs):Prop:=∃t xs pl,r=.ret (.tup [jb (bM ls),.map t]) ⟨S.objs++xs,S.tips⟩∧(S.objs++xs)[t]?=some (cC pl)∧∀(i:Nat) (h:i<(bM ls).length),iN (bM ls)[i] pl=some i
def YG{S:St}{p:PV}{ls:List (List aQ)}(h:eD S p ls)(hw:∀w∈dv ls,w.length≤maxLen)(hn:(bM ls).length≤1048576):dc tie 234 [p] S (YF ls S):=by
 obtain⟨ox,om,n0,sv,qs,kv,rfl,hne,hox,hom,hown,hql,hqs,hnd,hk⟩:=h.at_;have hlx:=(aM.1 hox).1;have hlm:=(aM.1 hom).1;refine jy tieOk ZD ZE rfl ?_;show W tie yr.body _ _ _;unfold yr;simp only;refine bO tieOk rfl ?_;simp -implicitDefEqProofs [BM];refine bO tieOk rfl ?_;simp -implicitDefEqProofs [BN,aG,bt];refine(fun key=>key _ ?_ ?_:(∀fr:Fr,fr 0=.ptr ox 0→fr 4=.map S.objs.length→W tie _ fr _ _)→W tie _ _ _ _) ?_
 ·simp[bk]
 ·simp
 intro fr f0 f4;have hev:(cR kv).length%2=0:=by rw[yP];omega
 have hox1:(S.objs++[[]])[ox]?=some [sv,.map om]:=by rw[bK hlx];exact hox
 obtain⟨fr1,S1,hpre,hS1,g13,g4⟩:=Dy (T:=T) (l:=yp) (fr:=fr) (S:=⟨S.objs++[[]],S.tips⟩) (P:=fun fr' S'=>S'=⟨S.objs++[[]],S.tips⟩∧fr' 13=.map om∧fr' 4=.map S.objs.length) (by
  simp -implicitDefEqProofs [yp,f0,f4,bI (S:=⟨S.objs++[[]],S.tips⟩) hox1,bD])
 subst hS1;refine bw (aE8 tieOk (fr1:=fr1) (S1:=⟨S.objs++[[]],S.tips⟩) (id:=om) (cs:=cR kv) hpre g13 (by simp only;rw[bK hlm];exact hom) hev ?_);rw[Fm]
 have hum:eW om (cR kv++[.und]) ⟨S.objs++[[]],S.tips⟩=⟨S.objs.set om (cR kv++[.und])++[cC []]++[],S.tips⟩:=by
  simp[eW,cC,uR _ _ hlm]
 have hOl:(S.objs.set om (cR kv++[.und])).length=S.objs.length:=by simp
 rw[hum];refine Xx (O:=S.objs.set om (cR kv++[.und])) (T0:=S.tips) _ _ (kv.map (·.1)) [] [] _ _ (by simp[Function.comp_def]) (by simp) ⟨⟨[],rfl⟩,by simp,fun k=>by simp⟩ (by rw[hOl];simp[oH,g4]) (fun fr' S' pl done g4' hA hdone=>?_);rw[hOl]at g4';obtain⟨⟨xs,rfl⟩,hnd2,hmem⟩:=hA
 have hun2:eW om (cR kv) ⟨S.objs.set om (cR kv++[.und])++[cC pl]++xs,S.tips⟩=⟨S.objs++(cC pl::xs),S.tips⟩:=by
  simp only[eW,fi];rw[uR _ _ (by rw[hOl];exact hlm),uS]
  congr 2
  apply iV;intro i;rw[lM];split
  ·rename_i e;subst e;rw[hom]
  ·rfl
 simp only[hun2]
 have hks:(pl.map (·.1)).mergeSort leB=bM ls:=Xv hnd2 (fun k=>by
  rw[hmem,←YE hk];constructor
  ·rintro⟨e,he,h⟩;exact⟨e,by have:=(hdone e).1 he;simpa using this,h⟩
  ·rintro⟨e,he,h⟩;exact⟨e,(hdone e).2 (.inr he),h⟩)
 have hmw:∀q∈pl,q.1∈dv ls:=fun q hq=>by
  rw[←po,←hks,List.mem_mergeSort];exact List.mem_map.2 ⟨q,hq,rfl⟩
 have hpll:pl.length=(bM ls).length:=by rw[←hks];simp
 have ht:(S.objs++(cC pl::xs))[S.objs.length]?=some (cC pl):=by simp
 have hsv:=YB (S:=⟨S.objs++(cC pl::xs),S.tips⟩) (m:=S.objs.length) ht (by omega) (fun q hq=>hw _ (hmw q hq));rw[hks]at hsv;have hkv:=YA (S:=⟨S.objs++(cC pl::xs),S.tips⟩) (m:=S.objs.length);have hln:=(vC (bM ls)).len;rw[bz]at hln;obtain⟨B,hB⟩:∃B,B=S.objs++(cC pl::xs)++[[.map S.objs.length]]:=⟨_,rfl⟩;simp only at hsv hkv;rw[←hB]at hsv hkv;have hpl:(S.objs++(cC pl::xs)).length=S.objs.length+(xs.length+1):=by simp
 rw[hpl]at hsv hkv;have hBt:B[S.objs.length]?=some (cC pl):=by rw[hB,fi];simp
 have hBl:S.objs.length<B.length:=(aM.1 hBt).1;have hBg:∀c,∃ys,B.set S.objs.length c=S.objs++ys:=fun c=>⟨c::(xs++[[.map S.objs.length]]),by rw[hB,fi,xu _ _ (aU _)];simp⟩;clear hpre hum hun2 hmem hdone;refine bO tieOk rfl ?_;simp -implicitDefEqProofs [lY,BO,g4',hkv,hsv];refine bO tieOk rfl ?_;simp -implicitDefEqProofs [lY,BP,hln];refine YD (Xw ls) (by omega) hBl hBt (by simp) (by simp) (by simp[g4']) (by simp) (by simp) (fun fr2 pl2 k4 k6 hpl2=>?_);simp -implicitDefEqProofs;refine pO tieOk rfl ?_;simp -implicitDefEqProofs [lY,BR,k4,k6];rw[YC];obtain⟨ys,hys⟩:=hBg (cC pl2);refine⟨S.objs.length,ys,pl2,by rw[hys],by rw[←hys];exact cK hBl,hpl2⟩
end Ps
