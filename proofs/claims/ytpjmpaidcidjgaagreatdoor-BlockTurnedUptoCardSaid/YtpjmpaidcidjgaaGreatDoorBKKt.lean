/- Bits are laid down: qr, writer, put, PutNum. -/
import Derived.Test.YtpjmpaidcidjgaaGreatDoorAbbKt
import Derived.Test.YtpjmpaidcidjgaaGreatDoorBFKt
import Derived.Test.YtpjmpaidcidjgaaGreatDoorBDKt
set_option linter.defProp false
namespace Ps
set_option linter.unusedSimpArgs false
set_option linter.unusedVariables false
open Go
def fu.grows{S0 S:St}{sv:PV}{qs:List PV}{kv:List (K2×PV)}{B:Nat}(h:fu S0 S sv qs kv B):aV S0 S:=by
 refine⟨S.objs.drop S0.objs.length,S.tips.drop S0.tips.length,?_⟩;have e1:=kI S0.objs.length S.objs;have e2:=kI S0.tips.length S.tips;rw[h.pre]at e1;rw[h.tpre]at e2;cases S;simp only at e1 e2;rw[e1,e2]
def fu.push{S0 S:St}{sv:PV}{qs:List PV}{kv:List (K2×PV)}{B:Nat}(h:fu S0 S sv qs kv B)(e:PV)(hb:(qs.length+1)*24≤140737488355328) :
  ∃sv' S',dT 1 24 ⟨S.objs,S.tips++[(1,1)]⟩ sv [e]=some (sv',S')∧S'.objs=S.objs∧fu S0 ⟨S.objs.set (S0.objs.length+1) [sv',.map S0.objs.length],S'.tips⟩ sv' (qs++[e]) kv B:=by
 have htl:=h.tl;obtain⟨v',S',a1,a2,a3,a4,a5,a6,a7,a8⟩:=(h.sets.more ⟨S.objs,S.tips++[(1,1)]⟩ [(1,1)] rfl).push (by simp;omega) e hb;have hp:=h.posts.more ⟨S.objs,S.tips++[(1,1)]⟩ [(1,1)] rfl;have hl:=(aL.1 h.ox).1;refine⟨v',S',a1,a3,⟨?_,?_,?_,fun i q=>?_,?_,?_,a2.more _ [] (by simp),⟨h.posts.keys,fun x hx=>?_,h.posts.dist,fun x hx=>?_⟩⟩⟩
 ·simp only;rw[List.take_set_of_le (by omega)];exact h.pre
 ·simp only;rw[a4];simp only;rw[jW htl];exact h.tpre
 ·simp only[ak,bE,cP]at a5 ⊢;omega
 ·simp only[ak,bE,cP]at a5 ⊢;rcases a2 with⟨rfl,_⟩|⟨id,_,rfl,k3⟩
  ·cases q
  ·cases q;exact(aL.1 k3).1
 ·simp only;rw[bq (by omega)];exact h.om
 ·exact dd hl
 ·obtain⟨qe,k1,k2,k3⟩:=hp.own x hx;exact⟨qe,(a8 1 x.2 qe k1 (.inr (hp.apart x hx))).more _ [] (by simp),k2,k3⟩
 ·rcases a6 with q|q
  ·rw[q];exact hp.apart x hx
  ·rw[q];intro q2;obtain⟨qe,k1,k2,k3⟩:=hp.own x hx;have:=(k1.lt q2).1;simp only[ak,bE,cP]at this;omega
def AC{T:aM}{f:Nat}{args:List PV}{S:St}{v:PV}(h:aS T f args S=some (v,S)):cE (aS T) .keep f args S=some (v,S):=by
 simp[cE,lr,h,yw]
def gQ(ls:List (List ad))(i:Nat)(h:i<ls.length):Nat:=
 if fX ls[i]≠0 then fX ls[i]else if h0:0<i then(if 0≤ft ls[i-1] ls[i]then 13 else 0)else 0
def fv(ls:List (List ad))(i:Nat):Nat:=
 if h:i<ls.length then(if gQ ls i h=0 then fv ls (i+1)else gQ ls i h)else 0
termination_by ls.length-i
def ey(ls:List (List ad)):Nat:=if 256<ls.length then 3 else fv ls 0
def Rb{ls:List (List ad)}{v:PV}{es:List PV}(hv:cn 1 v es)(hlen:es.length=ls.length)(hes:∀(i:Nat)(h:i<ls.length)(h':i<es.length),cU 2 es[i] (ls[i].map az))(hb:∀l∈ls,l.length≤maxLen∧∀x∈l,x.1.length≤maxLen)(hN:ls.length≤256)
  {S0:St}{K:List Kt}{Q:Fr→St→Prop}:∀(n i:Nat),ls.length-i=n→i≤ls.length→∀(fr:Fr) (S:St) (sv:PV) (qs:List PV) (kv:List (K2×PV)),
  fr 0=v→fr 4=.ptr (S0.objs.length+1) 0→fr 17=v→fr 18=.int .i64 ls.length→fr 19=.int .i64 i→fu S0 S sv qs kv (8*i)→qs.length=i→(∀(j:Nat) (h:j<ls.length) (h':j<qs.length),bM 2 qs[j] (ls[j].map az)) →
  (∀k,k∈kv.map (·.1)↔∃l∈ls.take i,k∈l.map dr) →
  (fv ls i=0→∀fr' S' sv' qs' kv',fr' 4=.ptr (S0.objs.length+1) 0→fu S0 S' sv' qs' kv' (8*ls.length)→qs'.length=ls.length→(∀(j:Nat) (h:j<ls.length) (h':j<qs'.length),bM 2 qs'[j] (ls[j].map az)) →
   (∀k,k∈kv'.map (·.1)↔∃l∈ls,k∈l.map dr)→Ok (aF T K fr' S') Q) →
  (fv ls i≠0→∀fr' S',aV S0 S'→fr' 2=.nilp→fr' 3=.int .i64 (fv ls i)→Q fr' S')→Ok (aF T (.lp rT::.blk 0::K) fr S) Q:=by
 intro n
 induction n with
 |zero=>
  intro i hni hil fr S sv qs kv h0 h4 h17 h18 h19 hA hq hqs hk k1 k2;have hi:i=ls.length:=by omega
  have hc:fv ls i=0:=by rw[fv,dif_neg (by omega)]
  rw[bH];simp -implicitDefEqProofs [h17,h18,h19,hi];refine k1 hc _ _ sv qs kv (by simp[h4]) (by rw[←hi];exact hA) (by omega) hqs (fun q=>?_)
  rw[hk q,hi,il]
 |succ n ih=>
  intro i hni hil fr S sv qs kv h0 h4 h17 h18 h19 hA hq hqs hk k1 k2;have hi:i<ls.length:=by omega
  have hie:i<es.length:=by omega
  have hget:=hv.get i hie .i64;have hsl:=hes i hi hie;obtain⟨o1,o2⟩:=hsl.one;rw[o2]at hget;have hbi:=hb ls[i] (fK hi);have hchk:=fun S=>Qd hsl.reads hbi.2 hbi.1 S;have hw:IntKind.i64.wrap ((i:Int)+1)=((i+1:Nat):Int):=by rw[bT]<;>omega
  have hp1:∀{a:PV} {m:List PV},ap false 1 (a::m)=some a:=fun {a m}=>by simp[ap]
  rw[fv,dif_pos hi]at k1 k2;have hlen2:=hsl.len;rw[dN]at hlen2
  have main:fX ls[i]=0→gQ ls i hi=0→∀fr':Fr,fr' 0=v→fr' 4=.ptr (S0.objs.length+1) 0→fr' 5=.int .i64 i→fr' 6=es[i]→fr' 17=v→fr' 18=.int .i64 ls.length→fr' 19=.int .i64 i →
    Ok (aF T (.ops wE::.clr [(41,52)]::.code ((aN.region wF).seq (aN.block 2 rS.loop))::.blk 1::.code (.clr [(75,76)] (.region wH))::.lp rT::.blk 0::K) fr' S) Q:=by
   intro hc0 hs0 fr' g0 g4 g5 g6 g17 g18 g19
   have hl8:ls[i].length≤8:=by
    unfold fX at hc0;split at hc0
    ·cases hc0
    ·omega
   obtain⟨lv',hcl,hcl2⟩:=RZ hsl (by omega);obtain⟨c1,c2⟩:=hcl2.one;have hkp:=fun S=>AC (hcl S);obtain⟨sv',S',a1,a2,a3⟩:=hA.push lv' (by omega);have hox:∀t,cO ⟨S.objs,t⟩ false 1 (.ptr (S0.objs.length+1) 0)=some sv:=fun t=>by rw[dG (S:=⟨S.objs,t⟩) hA.ox];simp[hp1]
   have hox0:cO S false 1 (.ptr (S0.objs.length+1) 0)=some sv:=hox S.tips;have hxo:=hA.ox;obtain⟨q1,q2⟩:=a3.sets.one;simp -implicitDefEqProofs [g0,g4,g5,g6,g17,g18,g19,hox0,hkp,aH,cx,eP,c1,c2,a1,a2,hxo,bB,hlen2,q1,q2]
   refine Ra (v:=v) (i:=i) (N:=ls.length) hsl.reads hl8 ls[i].length 0 (by omega) (by omega) (8*i) _ _ kv (by simp[g0]) (by simp[g4]) (by simp[g5]) (by simp[g17]) (by simp[g18]) (by simp[g19]) (by simp) (by simp) (by simp) a3 (by omega)
    (fun fr2 S2 kv2 e0 e4 e17 e18 e19 eA ek=>?_)
   rw[if_pos hs0]at k1 k2;simp -implicitDefEqProofs [e19];refine ih (i+1) (by omega) (by omega) _ S2 sv' (qs++[lv']) kv2 (by simp[e0]) (by simp[e4]) (by simp[e17]) (by simp[e18]) (by simp[hw]) ⟨eA.pre,eA.tpre,eA.tl,eA.swt,eA.om,eA.ox,eA.sets,eA.posts.le (by omega)⟩ (by simp[hq]) (fun j h h'=>?_) (fun q=>?_) k1 k2
   ·simp only[ak,bE,cP]at h';by_cases hj:j<qs.length
    ·rw[List.getElem_append_left hj];exact hqs j h hj
    ·have:j=i:=by omega
     subst this;rw[List.getElem_append_right (by omega)];simpa[hq]using hcl2
   ·rw[ek q,hk q,oM,List.take_succ_eq_append_getElem hi];constructor
    ·rintro(⟨l,hl,hm⟩|hm)
     ·exact⟨l,bn.2 (.inl hl),hm⟩
     ·exact⟨ls[i],bn.2 (.inr (qk.2 rfl)),hm⟩
    ·rintro⟨l,hl,hm⟩;rcases bn.1 hl with hl|hl
     ·exact .inl ⟨l,hl,hm⟩
     ·simp only[qk]at hl;subst hl;exact .inr hm
  by_cases hc0:fX ls[i]=0
  rotate_left
  ·have hs:gQ ls i hi=fX ls[i]:=by rw[gQ,if_pos hc0]
   rw[if_neg (by rw[hs];exact hc0),hs]at k2;have hcb:(((fX ls[i]:Nat):Int) != 0)=true:=by simpa using hc0
   rw[bH];simp -implicitDefEqProofs [h0,h4,h17,h18,h19,hi,hget,hp1,hchk,hcb];refine k2 hc0 _ _ hA.grows ?_ ?_<;>simp
  by_cases hi0:0<i
  ·have hiep:i-1<es.length:=by omega
   have hslp:=hes (i-1) (by omega) hiep;have hgetp:=hv.get (i-1) hiep .i64;rw[hslp.one.2]at hgetp;have hsub:IntKind.i64.wrap ((i:Int)-1)=((i-1:Nat):Int):=by rw[bT]<;>omega
   have hcmp:=fun S=>Qx hslp.reads hsl.reads (hb ls[i-1] (fK (by omega))).1 S;by_cases hle:0≤ft ls[i-1] ls[i]
   ·have hs:gQ ls i hi=13:=by rw[gQ,if_neg (by simp[hc0]),dif_pos hi0,if_pos hle]
    rw[if_neg (by rw[hs];decide),hs]at k2;rw[bH];simp -implicitDefEqProofs [h0,h4,h17,h18,h19,hi,hget,hp1,hchk,hc0,hi0,hgetp,hsub,hcmp,hle];exact k2 (by decide) _ _ hA.grows (by simp) (by simp)
   ·have hs:gQ ls i hi=0:=by rw[gQ,if_neg (by simp[hc0]),dif_pos hi0,if_neg hle]
    rw[bH];simp -implicitDefEqProofs [-Ir,h0,h4,h17,h18,h19,hi,hget,hp1,hchk,hc0,hi0,hgetp,hsub,hcmp,hle];exact main hc0 hs _ (by simp[h0]) (by simp[h4]) (by simp) (by simp) (by simp[h17]) (by simp[h18]) (by simp[h19])
  ·have hs:gQ ls i hi=0:=by rw[gQ,if_neg (by simp[hc0]),dif_neg hi0]
   rw[bH];simp -implicitDefEqProofs [-Ir,h0,h4,h17,h18,h19,hi,hget,hp1,hchk,hc0,hi0];exact main hc0 hs _ (by simp[h0]) (by simp[h4]) (by simp) (by simp) (by simp[h17]) (by simp[h18]) (by simp[h19])
structure iw(S:St)(p:PV)(ls:List (List ad)):Prop where
 at_:∃(ox om n0:Nat) (sv:PV) (qs:List PV) (kv:List (K2×PV)),p=.ptr ox 0∧ox≠om∧S.objs[ox]?=some [sv,.map om]∧S.objs[om]?=some (cQ kv)∧dq S 1 n0 sv qs∧qs.length=ls.length ∧
  (∀(j:Nat) (h:j<ls.length) (h':j<qs.length),bM 2 qs[j] (ls[j].map az))∧(kv.map (·.1)).Nodup∧∀k,k∈kv.map (·.1)↔∃l∈ls,k∈l.map dr
def Rc{objs:List (List PV)}{n0 k id:Nat}:aj objs n0 k (.map id)=none:=by
 cases k with
 |zero=>rfl
 |succ k=>simp[aj,PV.free]
def AD{ls:List (List ad)}{v:PV}(hv:zn v ls)(hb:∀l∈ls,l.length≤maxLen∧∀x∈l,x.1.length≤maxLen)(hN:ls.length≤maxLen)(S:St) :
  (ey ls≠0→aS T 51 [v] S=some (.tup [.nilp,.int .i64 (ey ls)],S)) ∧
  (ey ls=0→∃S',aS T 51 [v] S=some (.tup [.ptr (S.objs.length+1) 0,.int .i64 0],S')∧aV S S'∧iw S' (.ptr (S.objs.length+1) 0) ls):=by
 obtain⟨es,hes,hlen,hel⟩:=hv;have hvl:=hes.len;rw[hlen]at hvl;by_cases hbig:256<ls.length
 ·have hn:ey ls=3:=by rw[ey,if_pos hbig]
  have hc:(256:Int)<(ls.length:Int):=by omega
  refine⟨fun _=>?_,fun h=>by rw[hn]at h;cases h⟩;rw[hn];refine cM uN rfl ?_;simp -implicitDefEqProofs [lj,hvl,hc];exact gE (aV.refl S) rfl
 ·have hn:ey ls=fv ls 0:=by rw[ey,if_neg hbig]
  have hc:¬(256:Int)<(ls.length:Int):=by omega
  rw[hn]
  have main:∀Q:Fr→St→Prop,(fv ls 0=0→∀fr' S' sv' qs' kv',fr' 2=.ptr (S.objs.length+1) 0→fr' 3=.int .i64 0→fu S S' sv' qs' kv' (8*ls.length)→qs'.length=ls.length→(∀(j:Nat) (h:j<ls.length) (h':j<qs'.length),bM 2 qs'[j] (ls[j].map az)) →
   (∀k,k∈kv'.map (·.1)↔∃l∈ls,k∈l.map dr)→Q fr' S') →
   (fv ls 0≠0→∀fr' S',aV S S'→fr' 2=.nilp→fr' 3=.int .i64 (fv ls 0)→Q fr' S')→Ok (aF T [.code lj.body] (bX [v]) S) Q:=by
   intro Q k1 k2;simp -implicitDefEqProofs [lj,hvl,hc,aH,aQ,ff,bB]
   refine Rb hes.reads hlen hel hb (by omega) ls.length 0 (by omega) (by omega) _ _ .nils [] [] (by simp) (by simp) (by simp) (by simp) (by simp)
    ⟨by simp,by simp,by simp,fun i e=>(by cases e),by simp[cQ],by simp,zp _ _ _,⟨by simp,fun e he=>(by simp at he),.nil,fun e he=>(by simp at he)⟩⟩ rfl (fun j h h'=>by simp at h') (fun k=>by simp) (fun hz fr' S' sv' qs' kv' g4 gA gq gqs gk=>?_) k2
   simp -implicitDefEqProofs [g4];exact k1 hz _ _ sv' qs' kv' (by simp) (by simp) gA gq gqs gk
  refine⟨fun hne=>?_,fun hz=>?_⟩
  ·refine cM uN rfl (main _ (fun h=>absurd h hne) (fun _ fr' S' hg h2 h3=>⟨[fr' 2,fr' 3],rfl,?_⟩));rw[h2,h3];exact gE hg rfl
  ·obtain⟨⟨fr',S'⟩,hgv,sv',qs',kv',h2,h3,hA,hq,hqs,hk⟩:=main (fun fr' S'=>∃sv' qs' kv',fr' 2=.ptr (S.objs.length+1) 0∧fr' 3=.int .i64 0∧fu S S' sv' qs' kv' (8*ls.length)∧qs'.length=ls.length ∧
    (∀(j:Nat) (h:j<ls.length) (h':j<qs'.length),bM 2 qs'[j] (ls[j].map az))∧(∀k,k∈kv'.map (·.1)↔∃l∈ls,k∈l.map dr)) (fun _ fr' S' sv' qs' kv' a b c d e f=>⟨sv',qs',kv',a,b,c,d,e,f⟩) (fun h=>absurd hz h)
   simp only at h2 h3 hA
   have hfin:ac false S S' (bP [fr' 2,fr' 3])=(.tup [.ptr (S.objs.length+1) 0,.int .i64 0],S'):=by
    rw[h2,h3]
    have hs:aj S'.objs S.objs.length dJ (.tup [.ptr (S.objs.length+1) 0,.int .i64 0])=none:=by
     show aj S'.objs S.objs.length (39+1) _=none;unfold aj
     have hp:aj S'.objs S.objs.length 39 (.ptr (S.objs.length+1) 0)=none:=by
      show aj S'.objs S.objs.length (38+1) _=none;unfold aj
      have hm:cD (aj S'.objs S.objs.length 38) [sv',.map S.objs.length]=none:=by
       simp only[cD,Rc];cases aj S'.objs S.objs.length 38 sv'<;>rfl
      simp[PV.free,hA.ox,hm]
     simp[PV.free,PV.freeL,cD,hp]
    simp only[bP,ac,bg,if_false,hs]
   refine⟨S',cM uN rfl ⟨(fr',S'),hgv,[fr' 2,fr' 3],rfl,hfin⟩,hA.grows,⟨S.objs.length+1,S.objs.length,S.tips.length,sv',qs',kv',rfl,by omega,hA.ox,hA.om,hA.sets,hq,hqs,hA.posts.keys,hk⟩⟩
end Ps
set_option linter.defProp false
namespace Ps
set_option linter.unusedSimpArgs false
set_option linter.unusedVariables false
open Go
def gr(bs:List UInt8)(i:Nat):Bool:=(bs.getD (i/8) 0).toNat.testBit (7-i%8)
def Pk(bs:List UInt8)(l:List Bool):Prop:=bs.length=(l.length+7)/8∧∀i,i<8*bs.length→gr bs i=l.getD i false
def gt(k:Nat):UInt8:=UInt8.ofNat (2^(7-k))
def kO(bs:List UInt8)(n:Nat)(b:Bool):List UInt8:=
 let bs1:=if n%8=0 then bs++[0]else bs
 if b then bs1.set (n/8) (bs1.getD (n/8) 0 ||| gt (n%8))else bs1
def fY:List UInt8→Nat→List Bool→List UInt8
 |bs,_,[]=>bs
 |bs,n,b::l=>fY (kO bs n b) (n+1) l
def dz(u k:Nat):List Bool:=(List.range k).map fun i=>u.testBit (k-1-i)
def dO(l:List Bool):List UInt8:=fY [] 0 l
def Rj{l:List UInt8}{i j:Nat}{x:UInt8}(h:i<l.length):(l.set i x).getD j 0=if j=i then x else l.getD j 0:=by
 simp only[cH,tc];by_cases e:i=j
 ·subst e;simp[h]
 ·rw[if_neg e,if_neg (Ne.symm e)]
def Rk{bs:List UInt8}{i:Nat}:gr (bs++[0]) i=gr bs i:=by
 unfold gr
 congr 2
 simp only[cH];by_cases h:i/8<bs.length
 ·rw[aw h]
 ·rw[eH (by omega),cr (l:=bs) (by omega)]
  cases e:i/8-bs.length with
  |zero=>rfl
  |succ k=>simp
def Rl{bs:List UInt8}{i:Nat}(h:8*bs.length≤i):gr bs i=false:=by
 unfold gr;rw[cH,cr (by omega)];simp
def Rm{k:Nat}(h:k<8):(gt k).toNat=2^(7-k):=by
 unfold gt;have:∀k,k<8→(UInt8.ofNat (2^(7-k))).toNat=2^(7-k):=by decide
 exact this k h
def AF{bs:List UInt8}{n:Nat}{b:Bool}(h:bs.length=(n+7)/8):(kO bs n b).length=(n+1+7)/8:=by
 unfold kO;by_cases e:n%8=0
 ·simp only[if_pos e];split<;>simp only[qh,ak,bE,cP]<;>omega
 ·simp only[if_neg e];split<;>(try simp only[qh])<;>omega
def Rn{bs:List UInt8}{l:List Bool}(h:Pk bs l)(b:Bool):Pk (kO bs l.length b) (l++[b]):=by
 obtain⟨h1,h2⟩:=h;have hl:=AF (b:=b) h1;refine⟨by simpa using hl,fun i hi=>?_⟩;rw[hl]at hi
 have hall:∀i,gr bs i=l.getD i false:=fun i=>by
  by_cases e:i<8*bs.length
  ·exact h2 i e
  ·rw[Rl (by omega),cH,cr (by omega)];rfl
 obtain⟨bs1,hbs1⟩:∃x,x=if l.length%8=0 then bs++[0]else bs:=⟨_,rfl⟩
 have hb1:∀i,gr bs1 i=l.getD i false:=fun i=>by
  rw[hbs1];split
  ·rw[Rk];exact hall i
  ·exact hall i
 have hlt:l.length/8<bs1.length:=by
  rw[hbs1];split
  ·simp;omega
  ·omega
 have hput:kO bs l.length b=if b then bs1.set (l.length/8) (bs1.getD (l.length/8) 0 ||| gt (l.length%8))else bs1:=by
  rw[hbs1];rfl
 have happ:(l++[b]).getD i false=if i=l.length then b else l.getD i false:=by
  simp only[cH];by_cases e:i<l.length
  ·rw[aw e,if_neg (by omega)]
  ·by_cases e2:i=l.length
   ·subst e2;simp
   ·rw[if_neg e2,cr (by simp;omega),cr (by omega)]
 rw[hput,happ]
 cases b with
 |false=>
  simp only[bg,if_false];rw[hb1];split
  ·rename_i e;rw[e,cH,cr (aR _)];rfl
  ·rfl
 |true=>
  simp only[if_true];unfold gr;rw[Rj hlt];by_cases e:i/8=l.length/8
  ·rw[if_pos e];have e1:=hb1 i;unfold gr at e1;rw[UInt8.toNat_or,Nat.testBit_or,Rm (io _ (by decide)),Nat.testBit_two_pow,←e,e1];by_cases e2:i=l.length
   ·subst e2;simp
   ·rw[if_neg e2];have:¬(7-l.length%8=7-i%8):=by omega
    simp[this]
  ·rw[if_neg e,if_neg (by intro q;subst q;exact e rfl)];exact hb1 i
theorem uQ:∀{m:List Bool} {bs:List UInt8} {l:List Bool},Pk bs l→Pk (fY bs l.length m) (l++m)
 | [],bs,l,h=>by simpa[fY]using h
 |b::m,bs,l,h=>by
  have:=uQ (m:=m) (Rn h b);simpa[fY]using this
def Ro:Pk [] []:=⟨rfl,fun i h=>by simp at h⟩
def qv(l:List Bool):Pk (dO l) l:=by
 have:=uQ (m:=l) Ro;simpa[dO]using this
def Rp{a b:UInt8}(h:∀i,i<8→a.toNat.testBit (7-i)=b.toNat.testBit (7-i)):a=b:=by
 apply UInt8.toNat_inj.1;apply Nat.eq_of_testBit_eq;intro j;by_cases e:j<8
 ·have:=h (7-j) (by omega)
  rwa [show 7-(7-j)=j by omega]at this
 ·have ha:a.toNat<2^j:=im a.toNat_lt (zY (by decide) (by omega:8≤j));have hb:b.toNat<2^j:=im b.toNat_lt (zY (by decide) (by omega:8≤j));rw[Nat.testBit_lt_two_pow ha,Nat.testBit_lt_two_pow hb]
def Rq{a b:List UInt8}{l:List Bool}(ha:Pk a l)(hb:Pk b l):a=b:=by
 obtain⟨a1,a2⟩:=ha;obtain⟨b1,b2⟩:=hb;apply List.ext_getElem (a1.trans b1.symm);intro i h1 h2;apply Rp;intro k hk;have x:=a2 (8*i+k) (by omega);have y:=b2 (8*i+k) (by omega);rw[←y]at x;unfold gr at x;rw[show(8*i+k)/8=i by omega,show(8*i+k)%8=k by omega]at x;simpa[cH,h1,h2]using x
def uR(l m:List Bool):dO (l++m)=fY (dO l) l.length m:=
 Rq (qv _) (uQ (qv l))
def uS(l:List Bool):(dO l).length=(l.length+7)/8:=(qv l).1
def uT(u k:Nat):(dz u k).length=k:=by simp[dz]
def Rr(u k:Nat):dz u (k+1)=u.testBit k::dz u k:=by
 apply List.ext_getElem (by simp[dz]);intro i h1 h2
 cases i with
 |zero=>simp[dz]
 |succ i=>
  simp only[dz,List.getElem_map,List.getElem_range,List.getElem_cons_succ]
  congr 1
  omega
def Rt{bs:List UInt8}{l:List Bool}(h:Pk bs l)(hn:l.length%8≠0):(bs.getD (bs.length-1) 0).toNat*2^(l.length%8)%256=0:=by
 obtain⟨h1,h2⟩:=h;have hk:l.length%8<8:=io _ (by decide)
 have hz:∀j,j<8-l.length%8→(bs.getD (bs.length-1) 0).toNat.testBit j=false:=by
  intro j hj;have:=h2 (8*(bs.length-1)+(7-j)) (by omega);unfold gr at this;rw[show(8*(bs.length-1)+(7-j))/8=bs.length-1 by omega,show 7-(8*(bs.length-1)+(7-j))%8=j by omega]at this;rw[this,cH,cr (by omega)];rfl
 apply Nat.eq_of_testBit_eq;intro i;rw[show(256:Nat)=2^8 by rfl,Nat.testBit_mod_two_pow,Nat.zero_testBit];by_cases e:i<8
 ·rw[mr,Nat.testBit_two_pow_mul];by_cases e2:l.length%8≤i
  ·rw[hz (i-l.length%8) (by omega)];simp
  ·simp[e2]
 ·simp[e]
end Ps
set_option linter.defProp false
namespace Ps
set_option linter.unusedSimpArgs false
set_option linter.unusedVariables false
open Go
def bR(u:Nat):Nat:=if u=0 then 0 else u.log2+1
def Ru{u n:Nat}(h1:2^n≤u)(h2:u<2^(n+1)):bR u=n+1:=by
 have h0:u≠0:=by have:=Nat.two_pow_pos n;omega
 unfold bR;rw[if_neg h0,(Nat.log2_eq_iff h0).2 ⟨h1,h2⟩]
def Rv(u:Nat):u<2^bR u:=by
 unfold bR;split
 ·rename_i h;subst h;decide
 ·exact Nat.lt_log2_self
def AG{u:Nat}(h:u≠0):2^(bR u-1)≤u∧0<bR u:=by
 unfold bR;rw[if_neg h];exact⟨Nat.log2_self_le h,Nat.succ_pos _⟩
def lX{u k:Nat}(h:u<2^k):bR u≤k:=by
 by_cases h0:u=0
 ·subst h0;exact bh _
 ·obtain⟨h1,h2⟩:=AG h0;have:=(Nat.pow_lt_pow_iff_right (a:=2) (by decide)).1 (Nat.lt_of_le_of_lt h1 h);omega
def uU{u k:Nat}(h:2^k≤u):bR u=k+bR (u/2^k):=by
 have hp:=Nat.two_pow_pos k
 have h0:u/2^k≠0:=by
  have:1≤u/2^k:=(Nat.le_div_iff_mul_le hp).2 (by omega);omega
 obtain⟨a1,a2⟩:=AG h0;have a3:=Rv (u/2^k);generalize hn:bR (u/2^k)=n at a1 a2 a3;obtain⟨m,rfl⟩:∃m,n=m+1:=⟨n-1,by omega⟩;rw[show m+1-1=m by omega]at a1
 have b1:2^(k+m)≤u:=by
  have:=(Nat.le_div_iff_mul_le hp).1 a1;rw[Nat.pow_add,mr];exact this
 have b2:u<2^(k+m+1):=by
  have:=(mq hp).1 a3;rw[show k+m+1=(m+1)+k by omega,Nat.pow_add];exact this
 rw[Ru b1 b2];omega
def Rw:T.fn 373=some (.code pB):=rfl
def Rx:∀x:Fin 256,([0,1,2,2,3,3,3,3,4,4,4,4,4,4,4,4,5,5,5,5,5,5,5,5,5,5,5,5,5,5,5,5,6,6,6,6,6,6,6,6,6,6,6,6,6,6,6,6,6,6,6,6,6,6,6,6,6,6,6,6,6,6,6,6,7,7,7,7,7,7,7,7,7,7,7,7,7,7,7,7,7,7,7,7,7,7,7,7,7,7,7,7,7,7,7,7,7,7,7,7,7,7,7,7,7,7,7,7,7,7,7,7,7,7,7,7,7,7,7,7,7,7,7,7,7,7,7,7,8,8,8,8,8,8,8,8,8,8,8,8,8,8,8,8,8,8,8,8,8,8,8,8,8,8,8,8,8,8,8,8,8,8,8,8,8,8,8,8,8,8,8,8,8,8,8,8,8,8,8,8,8,8,8,8,8,8,8,8,8,8,8,8,8,8,8,8,8,8,8,8,8,8,8,8,8,8,8,8,8,8,8,8,8,8,8,8,8,8,8,8,8,8,8,8,8,8,8,8,8,8,8,8,8,8,8,8,8,8,8,8,8,8,8,8,8,8,8,8,8,8,8,8,8,8,8,8]:List UInt8)[x.val]?=some (UInt8.ofNat (bR x.val)):=by decide +kernel
def AH:∀x:Fin 256,bR x.val≤8:=by decide +kernel
set_option maxRecDepth 100000 in
def Ry{x:Nat}(h:x<256):dZ (.str [0,1,2,2,3,3,3,3,4,4,4,4,4,4,4,4,5,5,5,5,5,5,5,5,5,5,5,5,5,5,5,5,6,6,6,6,6,6,6,6,6,6,6,6,6,6,6,6,6,6,6,6,6,6,6,6,6,6,6,6,6,6,6,6,7,7,7,7,7,7,7,7,7,7,7,7,7,7,7,7,7,7,7,7,7,7,7,7,7,7,7,7,7,7,7,7,7,7,7,7,7,7,7,7,7,7,7,7,7,7,7,7,7,7,7,7,7,7,7,7,7,7,7,7,7,7,7,7,8,8,8,8,8,8,8,8,8,8,8,8,8,8,8,8,8,8,8,8,8,8,8,8,8,8,8,8,8,8,8,8,8,8,8,8,8,8,8,8,8,8,8,8,8,8,8,8,8,8,8,8,8,8,8,8,8,8,8,8,8,8,8,8,8,8,8,8,8,8,8,8,8,8,8,8,8,8,8,8,8,8,8,8,8,8,8,8,8,8,8,8,8,8,8,8,8,8,8,8,8,8,8,8,8,8,8,8,8,8,8,8,8,8,8,8,8,8,8,8,8,8,8,8,8,8,8,8]) (.int .u8 (x:Int))=some (.int .u8 ((bR x:Nat):Int)):=by
 have h1:=Rx ⟨x,h⟩;have h2:=AH ⟨x,h⟩;simp only at h1 h2;have h3:(UInt8.ofNat (bR x)).toNat=bR x:=by simp;omega
 have h4:(0:Int)≤(x:Int):=by omega
 rw[QB,if_pos h4,tU,h1];simp only[h3]
set_option maxRecDepth 100000 in
def Rz{K:List Kt}{fr:Fr}{S:St}{Q:Fr→St→Prop}{x c:Nat}(hx:x<256)(hc:c≤56)(h0:fr 0=.int .u64 (x:Int))(h2:fr 2=.int .i64 (c:Int))(k:∀fr',fr' 2=.int .i64 ((c+bR x:Nat):Int)→Ok (aF T K fr' S) Q) :
  Ok (aF T (.ops rO::K) fr S) Q:=by
 have hw:IntKind.u8.wrap (x:Int)=(x:Int):=QH (by omega) (by omega);have h8:=AH ⟨x,hx⟩;simp only at h8;have hw1:IntKind.i64.wrap ((bR x:Nat):Int)=((bR x:Nat):Int):=bT (by omega) (by omega);have hw2:IntKind.i64.wrap ((c:Int)+((bR x:Nat):Int))=((c+bR x:Nat):Int):=by rw[bT]<;>omega
 simp -implicitDefEqProofs [h0,h2,hw,Ry hx,hw1,hw2,-QB];exact k _ (by simp)
def SB{u:Nat}(hu:u<2^64)(S:St):aS T 373 [.int .u64 (u:Int)] S=some (.int .i64 ((bR u:Nat):Int),S):=by
 have ed:∀(a:Int) (k:Int),0<k→a.fdiv k=a/k:=fun a k hk=>ml _ (by omega);have e32:∀a:Int,arith .shr (.int .u64 a) (.int .u64 32)=some (.int .u64 (a/4294967296)):=fun a=>by rw[←ed a _ (by decide)];rfl
 have e16:∀a:Int,arith .shr (.int .u64 a) (.int .u64 16)=some (.int .u64 (a/65536)):=fun a=>by rw[←ed a _ (by decide)];rfl
 have e8:∀a:Int,arith .shr (.int .u64 a) (.int .u64 8)=some (.int .u64 (a/256)):=fun a=>by rw[←ed a _ (by decide)];rfl
 have w1:IntKind.i64.wrap 48=48:=rfl;have w2:IntKind.i64.wrap 56=56:=rfl;have w3:IntKind.i64.wrap 40=40:=rfl;have w4:IntKind.i64.wrap 24=24:=rfl;have w5:IntKind.i64.wrap 16=16:=rfl;have w6:IntKind.i64.wrap 8=8:=rfl;refine cM Rw rfl ?_
 have fin:∀(a c:Nat) (fr:Fr),a<256→c≤56→bR u=c+bR a→fr 0=.int .u64 (a:Int)→fr 2=.int .i64 (c:Int) →
   Ok (aF T [.ops rO,.clr [(19,25)],.code .ret] fr S) (km [.tmp 2] false S (.int .i64 ((bR u:Nat):Int)) S):=by
  intro a c fr ha hc hac h0 h2;refine Rz ha hc h0 h2 (fun fr' g=>?_);simp[g,hac,aV.refl]
 have s32:4294967296≤u→bR u=32+bR (u/4294967296):=fun h=>uU (k:=32) h;have s16:∀a,65536≤a→bR a=16+bR (a/65536):=fun a h=>uU (k:=16) h;have s8:∀a,256≤a→bR a=8+bR (a/256):=fun a h=>uU (k:=8) h;simp -implicitDefEqProofs [pB,-Us,e32,e16,e8,w1,w2,w3,w4,w5,w6];refine cF (fun a1=>cF (fun a2=>cF (fun a3=>?_) (fun a3=>?_)) (fun a2=>cF (fun a3=>?_) (fun a3=>?_))) (fun a1=>cF (fun a2=>cF (fun a3=>?_) (fun a3=>?_)) (fun a2=>cF (fun a3=>?_) (fun a3=>?_)))
 all_goals simp only[decide_eq_true_eq,decide_eq_false_iff_not]at a1 a2 a3
 ·refine fin (u/4294967296/65536/256) 56 _ (by omega) (by omega) ?_ (by simp) (by simp);rw[s32 (by omega),s16 _ (by omega),s8 _ (by omega)];omega
 ·refine fin (u/4294967296/65536) 48 _ (by omega) (by omega) ?_ (by simp) (by simp);rw[s32 (by omega),s16 _ (by omega)];omega
 ·refine fin (u/4294967296/256) 40 _ (by omega) (by omega) ?_ (by simp) (by simp);rw[s32 (by omega),s8 _ (by omega)];omega
 ·refine fin (u/4294967296) 32 _ (by omega) (by omega) ?_ (by simp) (by simp);rw[s32 (by omega)]
 ·refine fin (u/65536/256) 24 _ (by omega) (by omega) ?_ (by simp) (by simp);rw[s16 _ (by omega),s8 _ (by omega)];omega
 ·refine fin (u/65536) 16 _ (by omega) (by omega) ?_ (by simp) (by simp);rw[s16 _ (by omega)]
 ·refine fin (u/256) 8 _ (by omega) (by omega) ?_ (by simp) (by simp);rw[s8 _ (by omega)]
 ·refine fin u 0 _ (by omega) (by omega) (by omega) (by simp) (by simp)
def SC{u:Nat}(hu:u<2^64):ef T 373 [.int .u64 (u:Int)]=some (.int .i64 ((bR u:Nat):Int)):=qW (SB hu bF) rfl
def SD:T.fn 413=some (.code pC):=rfl
def SF{n:Nat}(hn:n<4611686018427387904)(S:St):aS T 413 [.int .i64 (n:Int)] S=some (.int .i64 (((n+7)/8:Nat):Int),S):=by
 have h1:((n:Int).tmod 8)=((n%8:Nat):Int):=by rw[qb (by omega)];omega
 have h2:((n:Int).tdiv 8)=((n/8:Nat):Int):=by rw[Int.tdiv_eq_ediv_of_nonneg (by omega)];omega
 have w1:IntKind.i64.wrap ((n/8:Nat):Int)=((n/8:Nat):Int):=bT (by omega) (by omega);have w2:IntKind.i64.wrap (((n/8:Nat):Int)+1)=((n/8+1:Nat):Int):=by rw[bT]<;>omega
 refine cM SD rfl ?_;simp -implicitDefEqProofs [pC,h1,h2,w1,w2,-Int.natCast_ediv,-Int.natCast_emod,-Int.natCast_add];refine cF (fun a=>?_) (fun a=>?_)
 ·have:(n+7)/8=n/8:=by simp at a;omega
  simp[this,aV.refl]
 ·have:(n+7)/8=n/8+1:=by simp at a;omega
  simp[this,aV.refl]
def SG{n:Nat}(hn:n<4611686018427387904):ef T 413 [.int .i64 (n:Int)]=some (.int .i64 (((n+7)/8:Nat):Int)):=qW (SF hn bF) rfl
end Ps
set_option linter.defProp false
namespace Ps
set_option linter.unusedSimpArgs false
set_option linter.unusedVariables false
open Go
def AI(bs:List UInt8)(n:Nat):Prop:=bs.length=(n+7)/8∧(n%8≠0→(bs.getD (bs.length-1) 0).toNat*2^(n%8)%256=0)
def Pk.rightB{bs:List UInt8}{l:List Bool}(h:Pk bs l):AI bs l.length:=⟨h.1,fun hn=>Rt h hn⟩
def SH:T.fn 404=some (.code nH):=rfl
def lY{a b:PV}:ap true 2 [a,b]=some (.agg [a,b]):=rfl
def dD{a:PV}{m:List PV}:ap false 1 (a::m)=some a:=by simp[ap]
def SI{a k:Nat}(hk:k≤8):arith .shl (.int .u8 (a:Int)) (.int .i64 (k:Int))=some (.int .u8 ((a*2^k%256:Nat):Int)):=by
 have h1:¬((k:Int)<0):=by omega
 have h2:min (k:Int).toNat IntKind.u8.bits=k:=by simp[IntKind.bits];omega
 simp only[arith,eN,nL,if_true,if_neg h1,h2];have:(a:Int)*2^k=((a*2^k:Nat):Int):=by norm_cast
 rw[this,jb]
def SJ{bs:List UInt8}{bv:PV}(hv:bM 1 bv (aJ bs)){n:Nat}(hn:n<4611686018427387904)(hr:AI bs n)(S:St):aS T 404 [.agg [bv,.int .i64 (n:Int)]] S=some (.bool true,S):=by
 obtain⟨r1,r2⟩:=hr;have hlen:=hv.len;obtain⟨o1,o2⟩:=hv.one;rw[bo]at hlen;have h0:¬((n:Int)<0):=by omega
 have hne:gI T 413 [.int .i64 (n:Int)]=some (.int .i64 (((n+7)/8:Nat):Int)):=(qV rfl).trans (SG hn);have hm:((n:Int).tmod 8)=((n%8:Nat):Int):=by rw[qb (by omega)];omega
 refine cM SH rfl ?_;by_cases h8:n%8=0
 ·have hz:(((n%8:Nat):Int)==0)=true:=by rw[h8];rfl
  simp -implicitDefEqProofs [nH,aH,dD,o1,o2,hlen,h0,hne,r1,hm,hz,-Int.natCast_ediv,-Int.natCast_emod,-Int.natCast_add]
 ·have hz:(((n%8:Nat):Int)==0)=false:=by simp;omega
  have hpos:0<bs.length:=by omega
  have hw:IntKind.i64.wrap (((bs.length:Nat):Int)-1)=((bs.length-1:Nat):Int):=by rw[bT]<;>omega
  have hg:=hv.reads.get (bs.length-1) (by rw[bo];omega) .i64
  have hgx:(aJ bs)[bs.length-1]'(by rw[bo];omega)=.int .u8 ((bs.getD (bs.length-1) 0).toNat:Int):=by
   simp[aJ,cH,bK (show bs.length-1<bs.length by omega)]
  rw[hgx,Py]at hg;have hs:=SI (a:=(bs.getD (bs.length-1) 0).toNat) (k:=n%8) (by omega);rw[r2 h8]at hs;generalize (((bs.getD (bs.length-1) 0).toNat:Nat):Int)=x at hg hs;simp -implicitDefEqProofs [nH,aH,dD,o1,o2,hlen,h0,hne,←r1,hm,hz,hw,hg,hs,-Int.natCast_ediv,-Int.natCast_emod,-Int.natCast_add]
end Ps
