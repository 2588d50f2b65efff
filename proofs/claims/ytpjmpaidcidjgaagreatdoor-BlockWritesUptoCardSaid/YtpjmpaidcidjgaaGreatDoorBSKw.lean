/- An index's texts, and its bytes. -/
import Derived.Test.YtpjmpaidcidjgaaGreatDoorAbbKw
import Derived.Test.YtpjmpaidcidjgaaGreatDoorBFKw
set_option linter.defProp false
namespace Ps
set_option linter.unusedSimpArgs false
set_option linter.unusedVariables false
open Go
def gZ.grows{S0 S:St}{sv:PV}{qs:List PV}{kv:List (K2×PV)}{B:Nat}(h:gZ S0 S sv qs kv B):aN S0 S:=by
 refine⟨S.objs.drop S0.objs.length,S.tips.drop S0.tips.length,?_⟩;have e1:=jx S0.objs.length S.objs;have e2:=jx S0.tips.length S.tips;rw[h.pre]at e1;rw[h.tpre]at e2;cases S;simp only at e1 e2;rw[e1,e2]
def gZ.push{S0 S:St}{sv:PV}{qs:List PV}{kv:List (K2×PV)}{B:Nat}(h:gZ S0 S sv qs kv B)(e:PV)(hb:(qs.length+1)*24≤140737488355328) :
  ∃sv' S',dF 1 24 ⟨S.objs,S.tips++[(1,1)]⟩ sv [e]=some (sv',S')∧S'.objs=S.objs∧gZ S0 ⟨S.objs.set (S0.objs.length+1) [sv',.map S0.objs.length],S'.tips⟩ sv' (qs++[e]) kv B:=by
 have htl:=h.tl;obtain⟨v',S',a1,a2,a3,a4,a5,a6,a7,a8⟩:=(h.sets.more ⟨S.objs,S.tips++[(1,1)]⟩ [(1,1)] rfl).push (by simp;omega) e hb;have hp:=h.posts.more ⟨S.objs,S.tips++[(1,1)]⟩ [(1,1)] rfl;have hl:=(aO.1 h.ox).1;refine⟨v',S',a1,a3,⟨?_,?_,?_,fun i q=>?_,?_,?_,a2.more _ [] (by simp),⟨h.posts.keys,fun x hx=>?_,h.posts.dist,fun x hx=>?_⟩⟩⟩
 ·simp only;rw[List.take_set_of_le (by omega)];exact h.pre
 ·simp only;rw[a4];simp only;rw[jy htl];exact h.tpre
 ·simp only[aZ,bE,cO]at a5 ⊢;omega
 ·simp only[aZ,bE,cO]at a5 ⊢;rcases a2 with⟨rfl,_⟩|⟨id,_,rfl,k3⟩
  ·cases q
  ·cases q;exact(aO.1 k3).1
 ·simp only;rw[bn (by omega)];exact h.om
 ·exact dd hl
 ·obtain⟨qe,k1,k2,k3⟩:=hp.own x hx;exact⟨qe,(a8 1 x.2 qe k1 (.inr (hp.apart x hx))).more _ [] (by simp),k2,k3⟩
 ·rcases a6 with q|q
  ·rw[q];exact hp.apart x hx
  ·rw[q];intro q2;obtain⟨qe,k1,k2,k3⟩:=hp.own x hx;have:=(k1.lt q2).1;simp only[aZ,bE,cO]at this;omega
def Bj{T:aQ}{f:Nat}{args:List PV}{S:St}{v:PV}(h:aM T f args S=some (v,S)):ck (aM T) .keep f args S=some (v,S):=by
 simp[ck,ma,h,Ab]
def eV(ls:List (List aT))(i:Nat)(h:i<ls.length):Nat:=
 if dn ls[i]≠0 then dn ls[i]else if h0:0<i then(if 0≤dJ ls[i-1] ls[i]then 13 else 0)else 0
def ez(ls:List (List aT))(i:Nat):Nat:=
 if h:i<ls.length then(if eV ls i h=0 then ez ls (i+1)else eV ls i h)else 0
termination_by ls.length-i
def df(ls:List (List aT)):Nat:=if 256<ls.length then 3 else ez ls 0
def Uk{ls:List (List aT)}{v:PV}{es:List PV}(hv:bW 1 v es)(hlen:es.length=ls.length)(hes:∀(i:Nat)(h:i<ls.length)(h':i<es.length),cF 2 es[i] (ls[i].map ac))(hb:∀l∈ls,l.length≤maxLen∧∀x∈l,x.1.length≤maxLen)(hN:ls.length≤256)
  {S0:St}{K:List Kt}{Q:Fr→St→Prop}:∀(n i:Nat),ls.length-i=n→i≤ls.length→∀(fr:Fr) (S:St) (sv:PV) (qs:List PV) (kv:List (K2×PV)),
  fr 0=v→fr 4=.ptr (S0.objs.length+1) 0→fr 17=v→fr 18=.int .i64 ls.length→fr 19=.int .i64 i→gZ S0 S sv qs kv (8*i)→qs.length=i→(∀(j:Nat) (h:j<ls.length) (h':j<qs.length),am 2 qs[j] (ls[j].map ac)) →
  (∀k,k∈kv.map (·.1)↔∃l∈ls.take i,k∈l.map eM) →
  (ez ls i=0→∀fr' S' sv' qs' kv',fr' 4=.ptr (S0.objs.length+1) 0→gZ S0 S' sv' qs' kv' (8*ls.length)→qs'.length=ls.length→(∀(j:Nat) (h:j<ls.length) (h':j<qs'.length),am 2 qs'[j] (ls[j].map ac)) →
   (∀k,k∈kv'.map (·.1)↔∃l∈ls,k∈l.map eM)→Ok (aE T K fr' S') Q) →
  (ez ls i≠0→∀fr' S',aN S0 S'→fr' 2=.nilp→fr' 3=.int .i64 (ez ls i)→Q fr' S')→Ok (aE T (.lp tE::.blk 0::K) fr S) Q:=by
 intro n
 induction n with
 |zero=>
  intro i hni hil fr S sv qs kv h0 h4 h17 h18 h19 hA hq hqs hk k1 k2;have hi:i=ls.length:=by omega
  have hc:ez ls i=0:=by rw[ez,dif_neg (by omega)]
  rw[aV];simp -implicitDefEqProofs [h17,h18,h19,hi];refine k1 hc _ _ sv qs kv (by simp[h4]) (by rw[←hi];exact hA) (by omega) hqs (fun q=>?_)
  rw[hk q,hi,List.take_length]
 |succ n ih=>
  intro i hni hil fr S sv qs kv h0 h4 h17 h18 h19 hA hq hqs hk k1 k2;have hi:i<ls.length:=by omega
  have hie:i<es.length:=by omega
  have hget:=hv.get i hie .i64;have hsl:=hes i hi hie;obtain⟨o1,o2⟩:=hsl.one;rw[o2]at hget;have hbi:=hb ls[i] (cr hi);have hchk:=fun S=>TX hsl.reads hbi.2 hbi.1 S;have hw:IntKind.i64.wrap ((i:Int)+1)=((i+1:Nat):Int):=by rw[au]<;>omega
  have hp1:∀{a:PV} {m:List PV},az false 1 (a::m)=some a:=fun {a m}=>by simp[az]
  rw[ez,dif_pos hi]at k1 k2;have hlen2:=hsl.len;rw[bU]at hlen2
  have main:dn ls[i]=0→eV ls i hi=0→∀fr':Fr,fr' 0=v→fr' 4=.ptr (S0.objs.length+1) 0→fr' 5=.int .i64 i→fr' 6=es[i]→fr' 17=v→fr' 18=.int .i64 ls.length→fr' 19=.int .i64 i →
    Ok (aE T (.ops xJ::.clr [(41,52)]::.code ((aL.region xK).seq (aL.block 2 tD.loop))::.blk 1::.code (.clr [(75,76)] (.region xM))::.lp tE::.blk 0::K) fr' S) Q:=by
   intro hc0 hs0 fr' g0 g4 g5 g6 g17 g18 g19
   have hl8:ls[i].length≤8:=by
    unfold dn at hc0;split at hc0
    ·cases hc0
    ·omega
   obtain⟨lv',hcl,hcl2⟩:=Ui hsl (by omega);obtain⟨c1,c2⟩:=hcl2.one;have hkp:=fun S=>Bj (hcl S);obtain⟨sv',S',a1,a2,a3⟩:=hA.push lv' (by omega);have hox:∀t,cg ⟨S.objs,t⟩ false 1 (.ptr (S0.objs.length+1) 0)=some sv:=fun t=>by rw[dM (S:=⟨S.objs,t⟩) hA.ox];simp[hp1]
   have hox0:cg S false 1 (.ptr (S0.objs.length+1) 0)=some sv:=hox S.tips;have hxo:=hA.ox;obtain⟨q1,q2⟩:=a3.sets.one;simp -implicitDefEqProofs [g0,g4,g5,g6,g17,g18,g19,hox0,hkp,aH,cA,cc,c1,c2,a1,a2,hxo,bK,hlen2,q1,q2]
   refine Uj (v:=v) (i:=i) (N:=ls.length) hsl.reads hl8 ls[i].length 0 (by omega) (by omega) (8*i) _ _ kv (by simp[g0]) (by simp[g4]) (by simp[g5]) (by simp[g17]) (by simp[g18]) (by simp[g19]) (by simp) (by simp) (by simp) a3 (by omega)
    (fun fr2 S2 kv2 e0 e4 e17 e18 e19 eA ek=>?_)
   rw[if_pos hs0]at k1 k2;simp -implicitDefEqProofs [e19];refine ih (i+1) (by omega) (by omega) _ S2 sv' (qs++[lv']) kv2 (by simp[e0]) (by simp[e4]) (by simp[e17]) (by simp[e18]) (by simp[hw]) ⟨eA.pre,eA.tpre,eA.tl,eA.swt,eA.om,eA.ox,eA.sets,eA.posts.le (by omega)⟩ (by simp[hq]) (fun j h h'=>?_) (fun q=>?_) k1 k2
   ·simp only[aZ,bE,cO]at h';by_cases hj:j<qs.length
    ·rw[List.getElem_append_left hj];exact hqs j h hj
    ·have:j=i:=by omega
     subst this;rw[List.getElem_append_right (by omega)];simpa[hq]using hcl2
   ·rw[ek q,hk q,pH,List.take_succ_eq_append_getElem hi];constructor
    ·rintro(⟨l,hl,hm⟩|hm)
     ·exact⟨l,bd.2 (.inl hl),hm⟩
     ·exact⟨ls[i],bd.2 (.inr (mB.2 rfl)),hm⟩
    ·rintro⟨l,hl,hm⟩;rcases bd.1 hl with hl|hl
     ·exact .inl ⟨l,hl,hm⟩
     ·simp only[mB]at hl;subst hl;exact .inr hm
  by_cases hc0:dn ls[i]=0
  rotate_left
  ·have hs:eV ls i hi=dn ls[i]:=by rw[eV,if_pos hc0]
   rw[if_neg (by rw[hs];exact hc0),hs]at k2;have hcb:(((dn ls[i]:Nat):Int) != 0)=true:=by simpa using hc0
   rw[aV];simp -implicitDefEqProofs [h0,h4,h17,h18,h19,hi,hget,hp1,hchk,hcb];refine k2 hc0 _ _ hA.grows ?_ ?_<;>simp
  by_cases hi0:0<i
  ·have hiep:i-1<es.length:=by omega
   have hslp:=hes (i-1) (by omega) hiep;have hgetp:=hv.get (i-1) hiep .i64;rw[hslp.one.2]at hgetp;have hsub:IntKind.i64.wrap ((i:Int)-1)=((i-1:Nat):Int):=by rw[au]<;>omega
   have hcmp:=fun S=>UA hslp.reads hsl.reads (hb ls[i-1] (cr (by omega))).1 S;by_cases hle:0≤dJ ls[i-1] ls[i]
   ·have hs:eV ls i hi=13:=by rw[eV,if_neg (by simp[hc0]),dif_pos hi0,if_pos hle]
    rw[if_neg (by rw[hs];decide),hs]at k2;rw[aV];simp -implicitDefEqProofs [h0,h4,h17,h18,h19,hi,hget,hp1,hchk,hc0,hi0,hgetp,hsub,hcmp,hle];exact k2 (by decide) _ _ hA.grows (by simp) (by simp)
   ·have hs:eV ls i hi=0:=by rw[eV,if_neg (by simp[hc0]),dif_pos hi0,if_neg hle]
    rw[aV];simp -implicitDefEqProofs [-Gm,h0,h4,h17,h18,h19,hi,hget,hp1,hchk,hc0,hi0,hgetp,hsub,hcmp,hle];exact main hc0 hs _ (by simp[h0]) (by simp[h4]) (by simp) (by simp) (by simp[h17]) (by simp[h18]) (by simp[h19])
  ·have hs:eV ls i hi=0:=by rw[eV,if_neg (by simp[hc0]),dif_neg hi0]
   rw[aV];simp -implicitDefEqProofs [-Gm,h0,h4,h17,h18,h19,hi,hget,hp1,hchk,hc0,hi0];exact main hc0 hs _ (by simp[h0]) (by simp[h4]) (by simp) (by simp) (by simp[h17]) (by simp[h18]) (by simp[h19])
structure gc(S:St)(p:PV)(ls:List (List aT)):Prop where
 at_:∃(ox om n0:Nat) (sv:PV) (qs:List PV) (kv:List (K2×PV)),p=.ptr ox 0∧ox≠om∧S.objs[ox]?=some [sv,.map om]∧S.objs[om]?=some (ca kv)∧eL S 1 n0 sv qs∧qs.length=ls.length ∧
  (∀(j:Nat) (h:j<ls.length) (h':j<qs.length),am 2 qs[j] (ls[j].map ac))∧(kv.map (·.1)).Nodup∧∀k,k∈kv.map (·.1)↔∃l∈ls,k∈l.map eM
def Ul{objs:List (List PV)}{n0 k id:Nat}:sol objs n0 k (.map id)=none:=by
 cases k with
 |zero=>rfl
 |succ k=>simp[sol,PV.free]
def Bk{ls:List (List aT)}{v:PV}(hv:iU v ls)(hb:∀l∈ls,l.length≤maxLen∧∀x∈l,x.1.length≤maxLen)(hN:ls.length≤maxLen)(S:St) :
  (df ls≠0→aM T 51 [v] S=some (.tup [.nilp,.int .i64 (df ls)],S)) ∧
  (df ls=0→∃S',aM T 51 [v] S=some (.tup [.ptr (S.objs.length+1) 0,.int .i64 0],S')∧aN S S'∧gc S' (.ptr (S.objs.length+1) 0) ls):=by
 obtain⟨es,hes,hlen,hel⟩:=hv;have hvl:=hes.len;rw[hlen]at hvl;by_cases hbig:256<ls.length
 ·have hn:df ls=3:=by rw[df,if_pos hbig]
  have hc:(256:Int)<(ls.length:Int):=by omega
  refine⟨fun _=>?_,fun h=>by rw[hn]at h;cases h⟩;rw[hn];refine bP wG rfl ?_;simp -implicitDefEqProofs [mR,hvl,hc];exact eR (aN.refl S) rfl
 ·have hn:df ls=ez ls 0:=by rw[df,if_neg hbig]
  have hc:¬(256:Int)<(ls.length:Int):=by omega
  rw[hn]
  have main:∀Q:Fr→St→Prop,(ez ls 0=0→∀fr' S' sv' qs' kv',fr' 2=.ptr (S.objs.length+1) 0→fr' 3=.int .i64 0→gZ S S' sv' qs' kv' (8*ls.length)→qs'.length=ls.length→(∀(j:Nat) (h:j<ls.length) (h':j<qs'.length),am 2 qs'[j] (ls[j].map ac)) →
   (∀k,k∈kv'.map (·.1)↔∃l∈ls,k∈l.map eM)→Q fr' S') →
   (ez ls 0≠0→∀fr' S',aN S S'→fr' 2=.nilp→fr' 3=.int .i64 (ez ls 0)→Q fr' S')→Ok (aE T [.code mR.body] (bg [v]) S) Q:=by
   intro Q k1 k2;simp -implicitDefEqProofs [mR,hvl,hc,aH,aW,ft,bK]
   refine Uk hes.reads hlen hel hb (by omega) ls.length 0 (by omega) (by omega) _ _ .nils [] [] (by simp) (by simp) (by simp) (by simp) (by simp)
    ⟨by simp,by simp,by simp,fun i e=>(by cases e),by simp[ca],by simp,BY _ _ _,⟨by simp,fun e he=>(by simp at he),.nil,fun e he=>(by simp at he)⟩⟩ rfl (fun j h h'=>by simp at h') (fun k=>by simp) (fun hz fr' S' sv' qs' kv' g4 gA gq gqs gk=>?_) k2
   simp -implicitDefEqProofs [g4];exact k1 hz _ _ sv' qs' kv' (by simp) (by simp) gA gq gqs gk
  refine⟨fun hne=>?_,fun hz=>?_⟩
  ·refine bP wG rfl (main _ (fun h=>absurd h hne) (fun _ fr' S' hg h2 h3=>⟨[fr' 2,fr' 3],rfl,?_⟩));rw[h2,h3];exact eR hg rfl
  ·obtain⟨⟨fr',S'⟩,hgv,sv',qs',kv',h2,h3,hA,hq,hqs,hk⟩:=main (fun fr' S'=>∃sv' qs' kv',fr' 2=.ptr (S.objs.length+1) 0∧fr' 3=.int .i64 0∧gZ S S' sv' qs' kv' (8*ls.length)∧qs'.length=ls.length ∧
    (∀(j:Nat) (h:j<ls.length) (h':j<qs'.length),am 2 qs'[j] (ls[j].map ac))∧(∀k,k∈kv'.map (·.1)↔∃l∈ls,k∈l.map eM)) (fun _ fr' S' sv' qs' kv' a b c d e f=>⟨sv',qs',kv',a,b,c,d,e,f⟩) (fun h=>absurd hz h)
   simp only at h2 h3 hA
   have hfin:ak false S S' (bu [fr' 2,fr' 3])=(.tup [.ptr (S.objs.length+1) 0,.int .i64 0],S'):=by
    rw[h2,h3]
    have hs:sol S'.objs S.objs.length eF (.tup [.ptr (S.objs.length+1) 0,.int .i64 0])=none:=by
     show sol S'.objs S.objs.length (39+1) _=none;unfold sol
     have hp:sol S'.objs S.objs.length 39 (.ptr (S.objs.length+1) 0)=none:=by
      show sol S'.objs S.objs.length (38+1) _=none;unfold sol
      have hm:cT (sol S'.objs S.objs.length 38) [sv',.map S.objs.length]=none:=by
       simp only[cT,Ul];cases sol S'.objs S.objs.length 38 sv'<;>rfl
      simp[PV.free,hA.ox,hm]
     simp[PV.free,PV.freeL,cT,hp]
    simp only[bu,ak,bp,if_false,hs]
   refine⟨S',bP wG rfl ⟨(fr',S'),hgv,[fr' 2,fr' 3],rfl,hfin⟩,hA.grows,⟨S.objs.length+1,S.objs.length,S.tips.length,sv',qs',kv',rfl,by omega,hA.ox,hA.om,hA.sets,hq,hqs,hA.posts.keys,hk⟩⟩
end Ps
set_option linter.defProp false
namespace Ps
set_option linter.unusedSimpArgs false
set_option linter.unusedVariables false
open Go
abbrev Wd:=List UInt8
def bk:List (Wd×Nat)→List PV
 | []=>[]
 |(q,n)::l=>.str q::.int .i64 (n:Int)::bk l
def gJ(k:Wd):List (Wd×Nat)→Option Nat
 | []=>none
 |(q,n)::l=>if k==q then some n else gJ k l
def dg(k:Wd)(n:Nat):List (Wd×Nat)→List (Wd×Nat)
 | []=>[(k,n)]
 |(q,u)::l=>if k==q then(k,n)::l else(q,u)::dg k n l
theorem By:∀l:List (Wd×Nat),(bk l).length=2*l.length
 | []=>rfl
 |(q,u)::l=>by simp only[bk,bE,By l];omega
theorem Bz(k:Wd):∀l:List (Wd×Nat),jC (.str k) (bk l)=some ((gJ k l).map fun n=>.int .i64 (n:Int))
 | []=>rfl
 |(q,f)::l=>by
  simp only[bk,jC,lE,gJ];cases h:(k==q)
  ·simpa using Bz k l
  ·simp
theorem sg(k:Wd)(n:Nat):∀l:List (Wd×Nat),gP (.str k) (.int .i64 (n:Int)) (bk l)=some (bk (dg k n l))
 | []=>rfl
 |(q,u)::l=>by
  simp only[bk,gP,lE,dg];cases h:(k==q)
  ·simp only[sg k n l];rfl
  ·simp[By,bk]
theorem CA:∀l:List (Wd×Nat),md (bk l)=some (l.map (·.1))
 | []=>rfl
 |(q,u)::l=>by simp only[bk,md,CA l,cV]
def CB(k:Wd)(n:Nat)(l:List (Wd×Nat)):(dg k n l).map (·.1)=if k∈l.map (·.1)then l.map (·.1)else l.map (·.1)++[k]:=by
 induction l with
 |nil=>simp[dg]
 |cons e l ih=>
  obtain⟨q,u⟩:=e;by_cases h:k=q
  ·subst h;simp[dg]
  ·have hb:(k==q)=false:=by simpa using h
   simp only[dg,hb,bp,if_false,cV,ih,cQ,h,false_or];split<;>simp
def CC{k:Wd}{n:Nat}{l:List (Wd×Nat)}(h:(l.map (·.1)).Nodup):((dg k n l).map (·.1)).Nodup:=by
 rw[CB];split
 ·exact h
 ·rename_i hk;rw[BA];exact⟨h,by simp,fun a ha b hb=>by simp at hb;subst hb;exact fun e=>hk (e▸ha)⟩
def CD{k q:Wd}{n:Nat}{l:List (Wd×Nat)}:q∈(dg k n l).map (·.1)↔q=k∨q∈l.map (·.1):=by
 rw[CB];split
 ·rename_i h;exact⟨.inr,fun h'=>h'.elim (fun e=>e▸h) id⟩
 ·simp only[bd,mB];exact⟨fun h=>h.symm,fun h=>h.symm⟩
theorem CE{k q:Wd}{n:Nat}:∀{l:List (Wd×Nat)},gJ q (dg k n l)=if q=k then some n else gJ q l
 | []=>by
  simp only[dg,gJ];by_cases h:q=k
  ·subst h;simp
  ·have:(q==k)=false:=by simpa using h
   simp[this,h]
 |(r,u)::l=>by
  simp only[dg];by_cases h:k=r
  ·subst h;simp only[beq_self_eq_true,if_true,gJ];by_cases e:q=k
   ·subst e;simp
   ·have:(q==k)=false:=by simpa using e
    simp[this,e]
  ·have hb:(k==r)=false:=by simpa using h
   simp only[hb,bp,if_false,gJ];by_cases e:q=r
   ·subst e;simp only[beq_self_eq_true,if_true];rw[if_neg (fun e=>h e.symm)]
   ·have:(q==r)=false:=by simpa using e
    simp only[this,bp,if_false];exact CE
def gK:List Wd→List Wd
 | []=>[]
 |a::l=>if a∈gK l then gK l else a::gK l
theorem pe{a:Wd}:∀{l:List Wd},a∈gK l↔a∈l
 | []=>by simp[gK]
 |b::l=>by
  simp only[gK];split
  ·rename_i h;rw[pe,cQ];exact⟨.inr,fun h'=>h'.elim (fun e=>e▸pe.1 h) id⟩
  ·simp[pe]
theorem sh:∀l:List Wd,(gK l).Nodup
 | []=>by simp[gK]
 |a::l=>by
  simp only[gK];split
  ·exact sh l
  ·rename_i h;exact nY.2 ⟨h,sh l⟩
def dp(ls:List (List aT)):List Wd:=ls.flatMap fun l=>l.flatMap fun x=>[x.1,x.2.1]
def bY(ls:List (List aT)):List Wd:=(gK (dp ls)).mergeSort leB
def CF{ls:List (List aT)}{ks:List Wd}(hn:ks.Nodup)(hm:∀k,k∈ks↔k∈dp ls):ks.mergeSort leB=bY ls:=by
 have hp:ks.Perm (gK (dp ls)):=(List.perm_ext_iff_of_nodup hn (sh _)).2 (fun a=>by rw[hm,pe]);exact mergeSort_of_perm hp
def mL{ls:List (List aT)}{k:Wd}:k∈bY ls↔k∈dp ls:=by
 unfold bY;rw[List.mem_mergeSort,pe]
def Vp(ls:List (List aT)):(bY ls).Nodup:=(List.mergeSort_perm _ _).nodup_iff.2 (sh _)
def fB(ls:List (List aT))(s:Wd):Nat:=(bY ls).idxOf s
def dP(ls:List (List aT)):List UInt8:=
 bI (bY ls).length++(bY ls).flatMap dD++bI ls.length++ls.flatMap fun l=>bI l.length++l.flatMap fun x=>bI (fB ls x.1)++bI (fB ls x.2.1)
end Ps
set_option linter.defProp false
namespace Ps
set_option linter.unusedSimpArgs false
set_option linter.unusedVariables false
open Go Go.Proofs
structure wM(O:List (List PV))(T0:List (Nat×Nat))(done:List K2)(pl:List (Wd×Nat))(S:St):Prop where
 st:∃xs,S=⟨O++[bk pl]++xs,T0⟩
 nd:(pl.map (·.1)).Nodup
 mem:∀k,k∈pl.map (·.1)↔∃e∈done,k=e.1∨k=e.2
def Vq{O:List (List PV)}{T0:List (Nat×Nat)}{Post:Fr→St→Prop}:∀(N:Nat) (ps:List (PV×PV)) (rem done:List K2) (pl:List (Wd×Nat)) (fr:Fr) (S:St),(ps.map (·.1)).Perm (rem.map eD)→rem.length=N →
  wM O T0 done pl S→fr 4=.map O.length→(∀fr' S' pl' done',fr' 4=.map O.length→wM O T0 done' pl' S'→(∀e,e∈done'↔e∈done∨e∈rem)→Post fr' S') →
  nU tie (rn mN) 17 pn mN po Post N ps fr S:=by
 intro N
 induction N with
 |zero=>
  intro ps rem done pl fr S hp hr hA h4 hQ;have hr':rem=[]:=List.length_eq_zero_iff.1 hr;subst hr';have hps:ps=[]:=by simpa using hp
  subst hps
  exact⟨rfl,hQ fr S pl done h4 hA (fun e=>by simp)⟩
 |succ N ih=>
  intro ps rem done pl fr S hp hr hA h4 hQ;refine aDF ?_;intro k v rem' r hpp;have hmem:k∈rem.map eD:=hp.mem_iff.1 ((hpp.map (·.1)).mem_iff.2 (by simp));obtain⟨e,he,rfl⟩:=List.mem_map.1 hmem;have hpr:rem.Perm (e::rem.erase e):=BB he
  have hp2:(rem'.map (·.1)).Perm ((rem.erase e).map eD):=by
   have h1:=((hpp.map (·.1)).symm.trans hp).trans (hpr.map _);simpa using h1
  obtain⟨a,b⟩:=e;obtain⟨⟨xs,rfl⟩,hnd,hmm⟩:=hA
  have hA2:wM O T0 (done++[(a,b)]) (dg b 0 (dg a 0 pl)) ⟨O++[bk (dg b 0 (dg a 0 pl))]++(xs++[[.str a,.str b]]),T0⟩:=by
   refine⟨⟨_,rfl⟩,CC (CC hnd),fun k=>?_⟩;rw[CD,CD,hmm];constructor
   ·rintro(rfl|rfl|⟨e,he,h⟩)
    ·exact⟨(a,k),by simp,.inr rfl⟩
    ·exact⟨(k,b),by simp,.inl rfl⟩
    ·exact⟨e,by simp[he],h⟩
   ·rintro⟨e,he,h⟩;rcases bd.1 he with he|he
    ·exact .inr (.inr ⟨e,he,h⟩)
    ·simp at he;subst he;rcases h with h|h
     ·exact .inr (.inl h)
     ·exact .inl h
  have hnext:∀fr':Fr,fr' 4=.map O.length→nU tie (rn mN) 17 pn mN po Post N rem' fr' ⟨O++bk (dg b 0 (dg a 0 pl))::(xs++[[.str a,.str b]]),T0⟩:=by
   intro fr' h4'
   have:=ih rem' (rem.erase (a,b)) (done++[(a,b)]) _ fr' _ hp2 (by have:=hpr.length_eq;simp at this;omega) hA2 h4' (fun fr2 S2 pl2 done2 g4 gA gm=>hQ fr2 S2 pl2 done2 g4 gA (fun e=>by
    rw[gm e,hpr.mem_iff];simp only[bd,cQ,pO,or_false];constructor
    ·rintro((h|h)|h)
     ·exact .inl h
     ·exact .inr (.inl h)
     ·exact .inr (.inr h)
    ·rintro(h|h|h)
     ·exact .inl (.inl h)
     ·exact .inl (.inr h)
     ·exact .inr h))
   simpa using this
  have hn:∀c:List PV,(O++c::(xs++[[PV.str a,.str b]]))[O.length+(xs.length+1)]?=some [.str a,.str b]:=fun c=>by
   rw[eJ (by omega)];simp
  have ht:∀c:List PV,(O++c::(xs++[[PV.str a,.str b]]))[O.length]?=some c:=fun c=>by simp
  have hset:∀c d:List PV,(O++c::(xs++[[PV.str a,.str b]])).set O.length d=O++d::(xs++[[PV.str a,.str b]]):=fun c d=>by simp
  have hld:∀(c:List PV) (j:Nat),cg ⟨O++c::(xs++[[PV.str a,.str b]]),T0⟩ false 1 (.ptr (O.length+(xs.length+1)) j)=az false 1 ([PV.str a,.str b].drop j):=fun c j=>dM (hn c);have hm1:gP (.str a) (.int .i64 0) (bk pl)=some (bk (dg a 0 pl)):=sg a 0 pl;have hm2:gP (.str b) (.int .i64 0) (bk (dg a 0 pl))=some (bk (dg b 0 (dg a 0 pl))):=sg b 0 (dg a 0 pl);have hni:(O.length+(xs.length+1) != O.length)=true:=by simp
  simp -implicitDefEqProofs [Wn,eD,aH,cj,bK];refine AW tieOk rfl ?_;simp -implicitDefEqProofs [kG,Wq,Wp,h4,hld,bM,aH,ht,hm1,hm2,oG,hni,hset,mN,rn,eY];exact hnext _ (by simp[h4])
def iV(l:List Wd):PV:=if l.isEmpty then .nils else .sl none (l.map .str) []
def si(l:List Wd):am 1 (iV l) (l.map .str):=by
 unfold iV
 cases l with
 |nil=>exact ib 1
 |cons a r=>exact ic (fun e he=>by obtain⟨x,_,rfl⟩:=List.mem_map.1 he;rfl) (gv _ (fun _=>rfl) _) (gS _ (fun _=>rfl) _)
def Vr:T.fn 314=some (.code z29):=rfl
def Vs:T.fn 199=some (.exs (oH 362)):=rfl
def CG{T:aQ}{f:Nat}{e:List PV→St→Option (PV×St)}(hf:T.fn f=some (.exs e)){args:List PV}{S:St}{r:PV×St}(h:e args S=some r):aM T f args S=some r:=by
 exact yj 1 (by simp only[bH,hf];exact h)
def Vt{S:St}{m:Nat}:aM T 314 [.map m] S=some (.fn 362 [.ptr S.objs.length 0],⟨S.objs++[[.map m]],S.tips⟩):=by
 refine bP Vr rfl ?_;simp -implicitDefEqProofs [z29,aH,cj];unfold ak
 have:sol (S.objs++[[PV.map m]]) S.objs.length eF (.fn 362 [.ptr S.objs.length 0])=none:=by
  have a1:sol (S.objs++[[PV.map m]]) S.objs.length 38 (.map m)=none:=rfl
  have a2:sol (S.objs++[[PV.map m]]) S.objs.length 39 (.ptr S.objs.length 0)=none:=by
   rw[sol];simp only[PV.free,bp,if_false,aX,if_true];simp[cT,a1]
  show sol (S.objs++[[PV.map m]]) S.objs.length (39+1) (.fn 362 [.ptr S.objs.length 0])=none;rw[sol];simp only[PV.free,PV.freeL,Al,bp,if_false];simp only[cT,a2]
 simp[this]
def Vu{S:St}{m:Nat}{l:List (Wd×Nat)}(hm:S.objs[m]?=some (bk l))(hl:l.length≤1048576)(hn:∀p∈l,p.1.length≤maxLen) :
  aM T 199 [.fn 362 [.ptr S.objs.length 0]] ⟨S.objs++[[.map m]],S.tips⟩=some (iV ((l.map (·.1)).mergeSort leB),⟨S.objs++[[.map m]],S.tips⟩):=by
 refine CG Vs ?_;have h1:(S.objs++[[PV.map m]])[S.objs.length]?=some [PV.map m]:=by simp
 have h2:(S.objs++[[PV.map m]])[m]?=some (bk l):=by rw[bF (aO.1 hm).1];exact hm
 have h3:(l.map (·.1)).length≤1048576∧(l.map (·.1)).all (fun k=>decide (k.length≤maxLen))=true:=by
  refine⟨by simpa using hl,?_⟩;simp only[List.all_eq_true,List.mem_map,decide_eq_true_eq];rintro k ⟨p,hp,rfl⟩;exact hn p hp
 simp only[oH,if_true,h1,h2,CA,if_pos h3]
 have:((l.map (·.1)).mergeSort leB).isEmpty=(l.map (·.1)).isEmpty:=by
  cases h:l.map (·.1)with
  |nil=>rw[List.mergeSort_nil]
  |cons a r=>
   have:=Ay (le:=leB) (a::r)
   cases hq:(a::r).mergeSort leB with
   |nil=>rw[hq]at this;simp at this
   |cons _ _=>rfl
 unfold iV;rw[this]
theorem CH:∀l:List (K2×PV),kN (ca l)=l.map fun e=>(eD e.1,e.2)
 | []=>rfl
 |e::l=>by
  have:ca (e::l)=eD e.1::e.2::ca l:=rfl;rw[this,kN,CH l,cV]
def Vv{S S1:St}{v:PV}{t:Nat}:ak false S S1 (.tup [v,.map t])=(.tup [v,.map t],S1):=by
 have a1:∀k,sol S1.objs S.objs.length k (.map t)=none:=fun k=>by cases k<;>rfl
 have:sol S1.objs S.objs.length eF (.tup [v,.map t])=none:=by
  show sol _ _ (39+1) _=none;rw[sol,if_neg (by simp[PV.free,PV.freeL])]
  have:cT (sol S1.objs S.objs.length 39) [v,.map t]=none:=by
   simp only[cT,a1];split<;>rfl
  simp only[this]
 simp[ak,this]
def Vw{L:List Wd}(hnd:L.Nodup)(hL:L.length≤4000000000){B:List (List PV)}{T0:List (Nat×Nat)}{t:Nat}(htl:t<B.length){K:List Kt}{Q:Fr→St→Prop}{fr:Fr}{pl:List (Wd×Nat)}(hB:B[t]?=some (bk pl))
  (h28:fr 28=iV L)(h29:fr 29=.int .i64 (L.length:Int))(h4:fr 4=.map t)(h6:fr 6=iV L)(h30:fr 30=.int .i64 0)
  (kk:∀fr' pl',fr' 4=.map t→fr' 6=iV L→(∀(i:Nat)(h:i<L.length),gJ L[i] pl'=some i)→Ok (aE T K fr' ⟨B.set t (bk pl'),T0⟩) Q) :
  Ok (aE T (.lp yE::.blk 2::K) fr ⟨B,T0⟩) Q:=by
 refine db L.length (fun i fr' S'=>fr' 28=iV L∧fr' 29=.int .i64 (L.length:Int)∧fr' 4=.map t∧fr' 6=iV L∧fr' 30=.int .i64 (i:Int)∧∃pl',S'=⟨B.set t (bk pl'),T0⟩∧∀(j:Nat) (h:j<L.length),j<i→gJ L[j] pl'=some j) ?_ ?_ 0 (bb _) _ _
  ⟨h28,h29,h4,h6,by simpa using h30,pl,by
   have:B.set t (bk pl)=B:=by
    apply ke;intro i;rw[vZ];split
    ·rename_i e;subst e;rw[hB]
    ·rfl
   rw[this],fun j h hj=>absurd hj (Nat.not_lt_zero j)⟩
 ·rintro i fr' S' hi ⟨g28,g29,g4,g6,g30,pl',rfl,hp⟩ k;have hg:=(si L).reads.get i (by simpa using hi) .i64;have hgx:(L.map PV.str)[i]'(by simpa using hi)=.str L[i]:=by simp
  rw[hgx]at hg;have hcs:(PV.str L[i]).cells=[.str L[i]]:=rfl;rw[hcs]at hg;have hw:IntKind.i64.wrap ((i:Int)+1)=((i+1:Nat):Int):=by rw[au]<;>omega
  have hlt:(i:Int)<(L.length:Int):=by omega
  have ht:(B.set t (bk pl'))[t]?=some (bk pl'):=dd htl;have hm:=sg L[i] i pl';have hss:(B.set t (bk pl')).set t (bk (dg L[i] i pl'))=B.set t (bk (dg L[i] i pl')):=List.set_set ..;rw[aV];simp -implicitDefEqProofs [g28,g29,g4,g6,g30,hg,hlt,hi,bM,aH,ht,hm,eY,hss];refine k _ _ ⟨by simp[g28],by simp[g29],by simp[g4],by simp[g6],by simp[hw],_,rfl,fun j hj hji=>?_⟩;rw[CE];by_cases e:j=i
  ·subst e;rw[if_pos rfl]
  ·rw[if_neg (fun q=>e ((List.getElem_inj hnd).1 q))];exact hp j hj (by omega)
 ·rintro fr' S' ⟨g28,g29,g4,g6,g30,pl',rfl,hp⟩;rw[aV];simp -implicitDefEqProofs [g29,g30];exact kk _ pl' (by simp[g4]) (by simp[g6]) (fun i h=>hp i h h)
end Ps
set_option linter.defProp false
namespace Ps
set_option linter.unusedSimpArgs false
set_option linter.unusedVariables false
open Go Go.Proofs
def Vx{ls:List (List aT)}{kv:List (K2×PV)}(hk:∀k,k∈kv.map (·.1)↔∃l∈ls,k∈l.map eM)(w:Wd):(∃e∈kv.map (·.1),w=e.1∨w=e.2)↔w∈dp ls:=by
 unfold dp;simp only[List.mem_flatMap];constructor
 ·rintro⟨e,he,hw⟩;obtain⟨l,hl,hx⟩:=(hk e).1 he;obtain⟨x,hx',rfl⟩:=List.mem_map.1 hx;refine⟨l,hl,x,hx',?_⟩;simp only[eM]at hw;rcases hw with rfl|rfl<;>simp
 ·rintro⟨l,hl,x,hx,hw⟩;refine⟨eM x,(hk _).2 ⟨l,hl,List.mem_map.2 ⟨x,hx,rfl⟩⟩,?_⟩;simpa[eM]using hw
def Vy(ls:List (List aT))(S:St)(r:Rs):Prop:=∃t xs pl,r=.ret (.tup [iV (bY ls),.map t]) ⟨S.objs++xs,S.tips⟩∧(S.objs++xs)[t]?=some (bk pl)∧∀(i:Nat) (h:i<(bY ls).length),gJ (bY ls)[i] pl=some i
def Vz{S:St}{p:PV}{ls:List (List aT)}(h:gc S p ls)(hw:∀w∈dp ls,w.length≤maxLen)(hn:(bY ls).length≤1048576):dv tie 234 [p] S (Vy ls S):=by
 obtain⟨ox,om,n0,sv,qs,kv,rfl,hne,hox,hom,hown,hql,hqs,hnd,hk⟩:=h.at_;have hlx:=(aO.1 hox).1;have hlm:=(aO.1 hom).1;refine vF tieOk Wr Ws rfl ?_;show W tie wU.body _ _ _;unfold wU;simp only;refine gy tieOk rfl ?_;simp -implicitDefEqProofs [yA];refine gy tieOk rfl ?_;simp -implicitDefEqProofs [yB,aH,cj];refine(fun key=>key _ ?_ ?_:(∀fr:Fr,fr 0=.ptr ox 0→fr 4=.map S.objs.length→W tie _ fr _ _)→W tie _ _ _ _) ?_
 ·simp[bg]
 ·simp
 intro fr f0 f4;have hev:(ca kv).length%2=0:=by rw[wE];omega
 have hox1:(S.objs++[[]])[ox]?=some [sv,.map om]:=by rw[bF hlx];exact hox
 obtain⟨fr1,S1,hpre,hS1,g13,g4⟩:=AX (T:=T) (l:=wS) (fr:=fr) (S:=⟨S.objs++[[]],S.tips⟩) (P:=fun fr' S'=>S'=⟨S.objs++[[]],S.tips⟩∧fr' 13=.map om∧fr' 4=.map S.objs.length) (by
  simp -implicitDefEqProofs [wS,f0,f4,dM (S:=⟨S.objs++[[]],S.tips⟩) hox1,bM])
 subst hS1;refine nT (aDz tieOk (fr1:=fr1) (S1:=⟨S.objs++[[]],S.tips⟩) (id:=om) (cs:=ca kv) hpre g13 (by simp only;rw[bF hlm];exact hom) hev ?_);rw[CH]
 have hum:dm om (ca kv++[.und]) ⟨S.objs++[[]],S.tips⟩=⟨S.objs.set om (ca kv++[.und])++[bk []]++[],S.tips⟩:=by
  simp[dm,bk,List.set_append_left _ _ hlm]
 have hOl:(S.objs.set om (ca kv++[.und])).length=S.objs.length:=by simp
 rw[hum];refine Vq (O:=S.objs.set om (ca kv++[.und])) (T0:=S.tips) _ _ (kv.map (·.1)) [] [] _ _ (by simp[Function.comp_def]) (by simp) ⟨⟨[],rfl⟩,by simp,fun k=>by simp⟩ (by rw[hOl];simp[mN,g4]) (fun fr' S' pl done g4' hA hdone=>?_);rw[hOl]at g4';obtain⟨⟨xs,rfl⟩,hnd2,hmem⟩:=hA
 have hun2:dm om (ca kv) ⟨S.objs.set om (ca kv++[.und])++[bk pl]++xs,S.tips⟩=⟨S.objs++(bk pl::xs),S.tips⟩:=by
  simp only[dm,List.append_assoc];rw[List.set_append_left _ _ (by rw[hOl];exact hlm),List.set_set]
  congr 2
  apply ke;intro i;rw[vZ];split
  ·rename_i e;subst e;rw[hom]
  ·rfl
 simp only[hun2]
 have hks:(pl.map (·.1)).mergeSort leB=bY ls:=CF hnd2 (fun k=>by
  rw[hmem,←Vx hk];constructor
  ·rintro⟨e,he,h⟩;exact⟨e,by have:=(hdone e).1 he;simpa using this,h⟩
  ·rintro⟨e,he,h⟩;exact⟨e,(hdone e).2 (.inr he),h⟩)
 have hmw:∀q∈pl,q.1∈dp ls:=fun q hq=>by
  rw[←mL,←hks,List.mem_mergeSort];exact List.mem_map.2 ⟨q,hq,rfl⟩
 have hpll:pl.length=(bY ls).length:=by rw[←hks];simp
 have ht:(S.objs++(bk pl::xs))[S.objs.length]?=some (bk pl):=by simp
 have hsv:=Vu (S:=⟨S.objs++(bk pl::xs),S.tips⟩) (m:=S.objs.length) ht (by omega) (fun q hq=>hw _ (hmw q hq));rw[hks]at hsv;have hkv:=Vt (S:=⟨S.objs++(bk pl::xs),S.tips⟩) (m:=S.objs.length);have hln:=(si (bY ls)).len;rw[bU]at hln;obtain⟨B,hB⟩:∃B,B=S.objs++(bk pl::xs)++[[.map S.objs.length]]:=⟨_,rfl⟩;simp only at hsv hkv;rw[←hB]at hsv hkv;have hpl:(S.objs++(bk pl::xs)).length=S.objs.length+(xs.length+1):=by simp
 rw[hpl]at hsv hkv;have hBt:B[S.objs.length]?=some (bk pl):=by rw[hB,List.append_assoc];simp
 have hBl:S.objs.length<B.length:=(aO.1 hBt).1;have hBg:∀c,∃ys,B.set S.objs.length c=S.objs++ys:=fun c=>⟨c::(xs++[[.map S.objs.length]]),by rw[hB,List.append_assoc,vg _ _ (aX _)];simp⟩;clear hpre hum hun2 hmem hdone;refine gy tieOk rfl ?_;simp -implicitDefEqProofs [kG,yC,g4',hkv,hsv];refine gy tieOk rfl ?_;simp -implicitDefEqProofs [kG,yD,hln];refine Vw (Vp ls) (by omega) hBl hBt (by simp) (by simp) (by simp[g4']) (by simp) (by simp) (fun fr2 pl2 k4 k6 hpl2=>?_);simp -implicitDefEqProofs;refine Sg tieOk rfl ?_;simp -implicitDefEqProofs [kG,yF,k4,k6];rw[Vv];obtain⟨ys,hys⟩:=hBg (bk pl2);refine⟨S.objs.length,ys,pl2,by rw[hys],by rw[←hys];exact dd hBl,hpl2⟩
end Ps
