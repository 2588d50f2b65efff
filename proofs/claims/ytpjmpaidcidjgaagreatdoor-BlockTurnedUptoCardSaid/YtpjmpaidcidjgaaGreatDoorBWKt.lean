/- What may be a block: its chunks, and how long its bytes are. -/
import Derived.Test.YtpjmpaidcidjgaaGreatDoorAbbKt
import Derived.Test.YtpjmpaidcidjgaaGreatDoorBKKt
import Derived.Test.YtpjmpaidcidjgaaGreatDoorBPKt
set_option linter.defProp false
namespace Ps
set_option linter.unusedSimpArgs false
set_option linter.unusedVariables false
open Go
def Rd:T.fn 64=some (.code lg):=rfl
def cV(l:List cA):Nat:=(l.map fun s=>s.2.length).sum
def iL(l:List cA)(i:Nat):Nat:=
 if h:i<l.length then(if l[i].2.length=0 then 2 else if ce l[i].2 0=0 then iL l (i+1)else ce l[i].2 0)else 0
termination_by l.length-i
def dH(l:List cA):Nat:=if 256<l.length∨65536<cV l then 3 else if ey (l.map (·.1))≠0 then ey (l.map (·.1))else iL l 0
def Re(a:Sm):eS [a]=if fM a.1 a.2=false then 11 else 0:=by
 rw[eS,if_neg (by simp),ce,dif_pos (by simp),cw];simp only[List.getElem_cons_zero,Nat.lt_irrefl,dite_false];split
 ·simp
 ·rw[if_pos rfl,ce,dif_neg (by simp)]
def Rf(a b:Sm)(ha:fM a.1 a.2=true):eS [a,b]=if fM b.1 b.2=false then 11 else if b.1≤a.1 then 13 else 0:=by
 have e0:∀h,cw [a,b] 0 h=0:=fun h=>by simp[cw,ha]
 have e1:∀h,cw [a,b] 1 h=if fM b.1 b.2=false then 11 else if b.1≤a.1 then 13 else 0:=fun h=>by simp[cw]
 rw[eS,if_neg (by simp),ce,dif_pos (by simp),e0,if_pos rfl,ce,dif_pos (by simp),e1];have e2:ce [a,b] (0+1+1)=0:=by rw[ce,dif_neg (by simp)]
 rw[e2];by_cases h1:fM b.1 b.2=false<;>by_cases h2:b.1≤a.1<;>simp[h1,h2]
def AE(a b:List cA):cV (a++b)=cV a+cV b:=by simp only[cV,dp,List.sum_append]
def Rg{l:List cA}{v:PV}{es:List PV}(hv:cn 2 v es)(hlen:es.length=l.length)(hes:∀(i:Nat)(h:i<l.length)(h':i<es.length),iK es[i] l[i])(hN:l.length≤256)(hsl:∀s∈l,s.2.length≤4000000000)
  {S0:St}{K:List Kt}{Q:Fr→St→Prop}:∀(n i:Nat),l.length-i=n→i≤l.length→∀(fr:Fr) (S:St),
  fr 0=v→fr 15=v→fr 16=.int .i64 l.length→fr 17=.int .i64 i→fr 3=.int .i64 (cV (l.take i))→cV (l.take i)≤65536→aV S0 S →
  (cV l≤65536→∀fr' S',fr' 0=v→aV S0 S'→Ok (aF T K fr' S') Q) →
  (65536<cV l→∀fr' S',aV S0 S'→fr' 2=.int .i64 3→Q fr' S')→Ok (aF T (.lp vu::.blk 0::K) fr S) Q:=by
 intro n
 induction n with
 |zero=>
  intro i hni hil fr S h0 h15 h16 h17 h3 ht hg k1 k2;have hi:i=l.length:=by omega
  rw[bH];simp -implicitDefEqProofs [h15,h16,h17,hi]
  exact k1 (by rw[hi,il]at ht;exact ht) _ _ (by simp[h0]) hg
 |succ n ih=>
  intro i hni hil fr S h0 h15 h16 h17 h3 ht hg k1 k2;have hi:i<l.length:=by omega
  have hie:i<es.length:=by omega
  obtain⟨lv,sv,he,hlv,hsv⟩:=hes i hi hie;have hget:=hv.get i hie .i64;rw[he]at hget;have hc0:(PV.agg [lv,sv]).cells=[lv,sv]:=rfl;rw[hc0]at hget;have hw:IntKind.i64.wrap ((i:Int)+1)=((i+1:Nat):Int):=by rw[bT]<;>omega
  have hpo:∀{a b:PV},ap true 2 [a,b]=some (.agg [a,b]):=fun {a b}=>rfl;have hp1:∀{a:PV} {m:List PV},ap false 1 (a::m)=some a:=fun {a m}=>by simp[ap]
  obtain⟨o1,o2⟩:=hlv.one;obtain⟨s1,s2⟩:=hsv.one;have hsl2:=hsv.len;rw[dN]at hsl2
  have htk:cV (l.take (i+1))=cV (l.take i)+l[i].2.length:=by
   rw[List.take_succ_eq_append_getElem hi,AE];simp[cV]
  have hmax:=hsl l[i] (fK hi);by_cases hb:65536<cV (l.take (i+1))
  ·have htot:65536<cV l:=by
    have:cV (l.take (i+1))≤cV l:=by
     conv=>rhs;rw[←kI (i+1) l,AE]
     omega
    omega
   have hadd:IntKind.i64.wrap (((cV (l.take i):Nat):Int)+(l[i].2.length:Int))=((cV (l.take (i+1)):Nat):Int):=by rw[htk,bT]<;>omega
   have hnb:(65536:Int)<((cV (l.take (i+1)):Nat):Int):=by omega
   rw[bH];simp -implicitDefEqProofs [h0,h15,h16,h17,h3,hi,hget,hpo,hp1,aH,bB,hc0,o1,o2,s1,s2,hsl2,hadd,hnb];exact k2 htot _ _ (hg.obj _) (by simp)
  ·have hadd:IntKind.i64.wrap (((cV (l.take i):Nat):Int)+(l[i].2.length:Int))=((cV (l.take (i+1)):Nat):Int):=by rw[htk,bT]<;>omega
   have hnb:¬(65536:Int)<((cV (l.take (i+1)):Nat):Int):=by omega
   rw[bH];simp -implicitDefEqProofs [h0,h15,h16,h17,h3,hi,hget,hpo,hp1,aH,bB,hc0,o1,o2,s1,s2,hsl2,hadd,hnb];exact ih (i+1) (by omega) (by omega) _ _ (by simp[h0]) (by simp[h15]) (by simp[h16]) (by simp[hw]) (by simp) (by omega) (hg.obj _) k1 k2
def Rh{s:List Sm}{sv:PV}(hs:bM 2 sv (s.map bJ))(hN:s.length≤65536){v:PV}{o1 o2:PV}{lv:PV}{a:Nat}{S0:St}{K:List Kt}{Q:Fr→St→Prop}:∀(n i:Nat),s.length-i=n→i≤s.length→∀(fr:Fr) (S:St),
  fr 0=v→fr 38=v→fr 39=o1→fr 40=o2→fr 9=.ptr a 0→S.objs[a]?=some [lv,sv]→fr 50=.int .i64 s.length→fr 51=.int .i64 i→aV S0 S→(∀j (h:j<s.length),j<i→cw s j h=0) →
  (ce s i=0→∀fr' S',fr' 0=v→fr' 38=v→fr' 39=o1→fr' 40=o2→aV S0 S'→Ok (aF T K fr' S') Q) →
  (ce s i≠0→∀fr' S',aV S0 S'→fr' 2=.int .i64 (ce s i)→Q fr' S')→Ok (aF T (.lp vw::.blk 4::K) fr S) Q:=by
 intro n
 induction n with
 |zero=>
  intro i hni hil fr S h0 h38 h39 h40 h9 hob h50 h51 hg hok k1 k2;have hi:i=s.length:=by omega
  have hc:ce s i=0:=by rw[ce,dif_neg (by omega)]
  rw[bH];simp -implicitDefEqProofs [h50,h51,hi]
  exact k1 hc _ _ (by simp[h0]) (by simp[h38]) (by simp[h39]) (by simp[h40]) hg
 |succ n ih=>
  intro i hni hil fr S h0 h38 h39 h40 h9 hob h50 h51 hg hok k1 k2;have hi:i<s.length:=by omega
  have hw:IntKind.i64.wrap ((i:Int)+1)=((i+1:Nat):Int):=by rw[bT]<;>omega
  have hw1:IntKind.i64.wrap ((i:Int)+1)=(i:Int)+1:=by rw[bT]<;>omega
  have hsub:IntKind.i64.wrap ((i:Int)-1)=(i:Int)-1:=by rw[bT]<;>omega
  have hmx:(if 1<(i:Int)then(i:Int)-1 else 0)=((i-1:Nat):Int):=by split<;>omega
  obtain⟨cv,hcv,hcv2⟩:=hs.isl.lh (lo:=i-1) (hi:=i+1) (k:=.i64) (j:=.i64) (by omega) (by simp;omega);have hcv':dk 2 (some (.int .i64 (if 1<(i:Int)then(i:Int)-1 else 0))) (some (.int .i64 ((i:Int)+1))) sv=some cv:=by rw[hmx];exact hcv
  have hld:∀ag n,cO S ag n (.ptr a 1)=ap ag n [sv]:=fun ag n=>by rw[dG hob];rfl
  have hp1:∀{a:PV} {m:List PV},ap false 1 (a::m)=some a:=fun {a m}=>by simp[ap]
  obtain⟨c,hc⟩:∃c:List Sm,c=((s.take (i+1)).drop (i-1)):=⟨_,rfl⟩;have hcv3:cn 2 cv (c.map bJ):=by rw[hc,qj,oQ];exact hcv2.reads
  have hcc:=fun S=>zm hcv3 S
  have hval:eS c=cw s i hi:=by
   by_cases hi0:0<i
   ·have hcd:c=[s[i-1],s[i]]:=by
     rw[hc];apply List.ext_getElem
     ·simp;omega
     ·intro q h1 h2;simp only[bE,cP]at h2
      match q with
      |0=>simp
      |1=>simp[show i-1+1=i by omega]
      |q+2=>omega
    have hp:=hok (i-1) (by omega) (by omega)
    have hm:fM s[i-1].1 s[i-1].2=true:=by
     rw[cw]at hp;split at hp
     ·cases hp
     ·rename_i h;simpa using h
    rw[hcd,Rf _ _ hm,cw,dif_pos hi0]
   ·have:i=0:=by omega
    subst this
    have hcd:c=[s[0]]:=by
     rw[hc];apply List.ext_getElem
     ·simp;omega
     ·intro q h1 h2;simp only[bE,cP]at h2
      match q with
      |0=>simp
      |q+1=>omega
    rw[hcd,Re,cw,dif_neg (by omega)]
  rw[ce,dif_pos hi]at k1 k2;by_cases hz:cw s i hi=0
  ·rw[if_pos hz]at k1 k2;rw[hz]at hval;rw[bH];simp -implicitDefEqProofs [h0,h38,h39,h40,h9,h50,h51,hi,hsub,hld,hp1,hcv',hcc,hval,hw1];refine ih (i+1) (by omega) (by omega) _ S (by simp[h0]) (by simp[h38]) (by simp[h39]) (by simp[h40]) (by simp[h9]) hob (by simp[h50]) (by simp) hg (fun j h hj=>?_) k1 k2;by_cases e:j=i
   ·subst e;exact hz
   ·exact hok j h (by omega)
  ·rw[if_neg hz]at k2;have hcb:(((cw s i hi:Nat):Int) != 0)=true:=by simpa using hz
   rw[bH];simp -implicitDefEqProofs [h0,h38,h39,h40,h9,h50,h51,hi,hsub,hld,hp1,hcv',hcc,hval,hcb,hw1];exact k2 hz _ _ hg (by simp)
def Ri{l:List cA}{v:PV}{es:List PV}(hv:cn 2 v es)(hlen:es.length=l.length)(hes:∀(i:Nat)(h:i<l.length)(h':i<es.length),iK es[i] l[i])(hN:l.length≤256)(hsl:∀s∈l,s.2.length≤65536)
  {S0:St}{K:List Kt}{Q:Fr→St→Prop}:∀(n i:Nat),l.length-i=n→i≤l.length→∀(fr:Fr) (S:St),
  fr 0=v→fr 38=v→fr 39=.int .i64 l.length→fr 40=.int .i64 i→aV S0 S→(iL l i=0→∀fr' S',aV S0 S'→Ok (aF T K fr' S') Q) →
  (iL l i≠0→∀fr' S',aV S0 S'→fr' 2=.int .i64 (iL l i)→Q fr' S')→Ok (aF T (.lp vy::.blk 2::K) fr S) Q:=by
 intro n
 induction n with
 |zero=>
  intro i hni hil fr S h0 h38 h39 h40 hg k1 k2;have hi:i=l.length:=by omega
  have hc:iL l i=0:=by rw[iL,dif_neg (by omega)]
  rw[bH];simp -implicitDefEqProofs [h38,h39,h40,hi]
  exact k1 hc _ _ hg
 |succ n ih=>
  intro i hni hil fr S h0 h38 h39 h40 hg k1 k2;have hi:i<l.length:=by omega
  have hie:i<es.length:=by omega
  obtain⟨lv,sv,he,hlv,hsv⟩:=hes i hi hie;have hget:=hv.get i hie .i64;rw[he]at hget;have hc0:(PV.agg [lv,sv]).cells=[lv,sv]:=rfl;rw[hc0]at hget;have hw:IntKind.i64.wrap ((i:Int)+1)=((i+1:Nat):Int):=by rw[bT]<;>omega
  have hpo:∀{a b:PV},ap true 2 [a,b]=some (.agg [a,b]):=fun {a b}=>rfl;have hp1:∀{a:PV} {m:List PV},ap false 1 (a::m)=some a:=fun {a m}=>by simp[ap]
  obtain⟨o1,o2⟩:=hlv.one;obtain⟨s1,s2⟩:=hsv.one;have hsl2:=hsv.len;rw[dN]at hsl2;have hmax:=hsl l[i] (fK hi);rw[iL,dif_pos hi]at k1 k2;by_cases h0l:l[i].2.length=0
  ·rw[if_pos h0l]at k2;have hz:(((l[i].2.length:Nat):Int)==0)=true:=by rw[beq_iff_eq];omega
   rw[bH];simp -implicitDefEqProofs [h0,h38,h39,h40,hi,hget,hpo,hp1,aH,bB,hc0,o1,o2,s1,s2,hsl2,hz];exact k2 (by decide) _ _ (hg.obj _) (by simp)
  ·rw[if_neg h0l]at k1 k2;have hz:(((l[i].2.length:Nat):Int)==0)=false:=by rw[beq_eq_false_iff_ne];omega
   rw[bH];simp -implicitDefEqProofs [h0,h38,h39,h40,hi,hget,hpo,hp1,aH,bB,hc0,o1,o2,s1,s2,hsl2,hz]
   refine Rh (v:=v) (o1:=.int .i64 l.length) (o2:=.int .i64 i) (lv:=lv) (a:=S.objs.length) hsv hmax l[i].2.length 0 (by omega) (by omega) _ _ (by simp[h0]) (by simp[h38]) (by simp[h39]) (by simp[h40]) (by simp) (by simp) (by simp) (by simp) (hg.obj _) (fun j h hj=>by omega)
    (fun hz fr' S' g0 g38 g39 g40 gg=>?_) (fun hz fr' S' gg g2=>?_)
   ·rw[if_pos hz]at k1 k2;simp -implicitDefEqProofs [g40];exact ih (i+1) (by omega) (by omega) _ _ (by simp[g0]) (by simp[g38]) (by simp[g39]) (by simp[hw]) gg k1 k2
   ·rw[if_neg hz]at k2;exact k2 hz fr' S' gg g2
theorem uO{n:Nat}:∀{l:List Nat},n∈l→n≤l.sum
 |a::l,h=>by
  rw[tk];rcases cY.1 h with rfl|h
  ·omega
  ·have:=uO h;omega
def uP{l:List cA}{v:PV}(hv:iu v l)(hb:∀s∈l,(s.1.length≤maxLen∧∀x∈s.1,x.1.length≤maxLen)∧s.2.length≤4000000000)(hN:l.length≤4000000000)(S:St):aS T 64 [v] S=some (.int .i64 (dH l),S):=by
 obtain⟨es,hes,hlen,hel⟩:=id hv;have hvl:=hes.len;rw[hlen]at hvl;refine cM Rd rfl ?_;by_cases hbig:256<l.length
 ·have hn:dH l=3:=by rw[dH,if_pos (.inl hbig)]
  have hc:(256:Int)<(l.length:Int):=by omega
  simp -implicitDefEqProofs [lg,hvl,hc,hn]
 ·have hc:¬(256:Int)<(l.length:Int):=by omega
  simp -implicitDefEqProofs [lg,hvl,hc];refine Rg hes.reads hlen hel (by omega) (fun s hs=>(hb s hs).2) l.length 0 (by omega) (by omega) _ S (by simp) (by simp) (by simp) (by simp) (by simp[cV]) (by simp[cV]) (aV.refl S) (fun ht fr1 S1 g0 gg=>?_) (fun ht fr1 S1 gg g2=>?_)
  rotate_left
  ·have hn:dH l=3:=by rw[dH,if_pos (.inr ht)]
   simp[gg,g2,hn]
  have hsmall:∀s∈l,s.2.length≤65536:=by
   intro s hs;have:s.2.length≤cV l:=uO (List.mem_map.2 ⟨s,hs,rfl⟩);omega
  obtain⟨v',hs1,hs2⟩:=zo hv (by omega) S1;have hn0:dH l=if ey (l.map (·.1))≠0 then ey (l.map (·.1))else iL l 0:=by rw[dH,if_neg (by omega)]
  obtain⟨w1,w2⟩:=AD hs2 (fun x hx=>by obtain⟨s,hs,rfl⟩:=List.mem_map.1 hx;exact(hb s hs).1) (by simp;unfold maxLen;omega) S1;by_cases hz:ey (l.map (·.1))=0
  ·obtain⟨S2,x1,x2,x3⟩:=w2 hz;rw[if_neg (by simp[hz])]at hn0;simp -implicitDefEqProofs [g0,hs1,x1,hvl];refine Ri hes.reads hlen hel (by omega) hsmall l.length 0 (by omega) (by omega) _ S2 (by simp[g0]) (by simp[g0]) (by simp) (by simp) (gg.trans x2) (fun hz fr' S' gg=>?_) (fun hz fr' S' gg g2=>?_)
   ·simp[gg,hn0,hz]
   ·simp[gg,g2,hn0]
  ·rw[if_pos hz]at hn0;have hcb:(((ey (l.map (·.1)):Nat):Int) != 0)=true:=by simpa using hz
   simp -implicitDefEqProofs [g0,hs1,w1 hz,hcb];simp[gg,hn0]
end Ps
set_option linter.defProp false
namespace Ps
set_option linter.unusedSimpArgs false
set_option linter.unusedVariables false
open Go Go.Proofs
def dE(b:List UInt8):List UInt8:=[UInt8.ofNat ((ir b).toNat%256),UInt8.ofNat ((ir b).toNat/256%256),UInt8.ofNat ((ir b).toNat/65536%256),UInt8.ofNat ((ir b).toNat/16777216%256)]
def dP(x:List UInt8):List UInt8:=bU x.length++x
def eJ(s:cA):List UInt8:=bU (cz s.2).length++(cz s.2).flatMap fun c=>dP (eT c)
def fN:List UInt8:=[71,66,75,49]
def dt(l:List cA):List UInt8:=fN++dP (df (l.map (·.1)))++l.flatMap eJ
def dQ(l:List cA):List UInt8:=dt l++dE (dt l)
def bI.more{S0 S S2:St}{sz:Nat}{v:PV}{es:List PV}(h:bI S0 sz S v es)(hg:aV S S2):bI S0 sz S2 v es:=by
 refine⟨h.grows.trans hg,?_⟩;rcases h.acc with h1|⟨id,h1,h2,h3⟩
 ·exact .inl h1
 ·obtain⟨o,t,rfl⟩:=hg;exact .inr ⟨id,h1,h2,by simp only;rw[aw (aL.1 h3).1];exact h3⟩
def bI.setO{S0 S:St}{sz:Nat}{v:PV}{es:List PV}(h:bI S0 sz S v es){i:Nat}(hi:S0.objs.length≤i)(x:List PV):bI S0 sz ⟨S.objs.set i x,S.tips⟩ v es:=⟨iy h.grows hi x,h.acc⟩
structure nD(S0 S:St)(ob:Nat)(p:List UInt8):Prop where
 new:S0.objs.length≤ob
 ex:∃bv,S.objs[ob]?=some [bv]∧bI S0 1 S bv (aJ p)
def Ad{S S1:St}{i:Nat}{x y:List PV}(hl:S1.objs.length=S.objs.length)(hx:S.objs[i]?=some x)(hy:S1.objs[i]?=some y)(hne:x≠y):ac false S S1 (.tup [])=(.tup [],S1):=by
 unfold ac;have hs:aj S1.objs S.objs.length dJ (.tup [])=some (.tup []):=pX rfl;have ht:S1.objs.take S.objs.length=S1.objs:=by rw[←hl];simp
 have hq:PV.beqLL S1.objs S.objs=false:=by
  cases h:PV.beqLL S1.objs S.objs with
  |false=>rfl
  |true=>
   have:=jL h;rw[this,hx]at hy;exact absurd (gh hy) hne
 rw[if_neg (by decide),hs,ht,hq];simp only[bg,if_false];split<;>rfl
def Td:T1.fn 261=some (.code pG):=rfl
def Te:T1.fn 262=some (.code z26):=rfl
def Ae(n:Nat):0<(bU n).length:=by rw[bU];split<;>simp
def Af{S0 S S':St}{v v':PV}{es es':List PV}{sz:Nat}(h:bI S0 sz S v es)(h':bI S0 sz S' v' es')(hl:es.length<es'.length):v≠v':=by
 rintro rfl;rcases h.acc with⟨h1,h2⟩|⟨id,_,h1,_⟩
 ·subst h1;rcases h'.acc with⟨_,e⟩|⟨_,_,e,_⟩
  ·subst e;simp at hl
  ·cases e
 ·subst h1;rcases h'.acc with⟨e,_⟩|⟨_,_,e,_⟩
  ·cases e
  ·injection e with _ e2 _
   rw[e2]at hl;omega
def Ag{S0 S:St}{ob:Nat}{p:List UInt8}(h:nD S0 S ob p)(hp:p.length≤60000000){n:Nat}(hn:n<4611686018427387904) :
  ∃S',aS T1 261 [.int .i64 (n:Int),.ptr ob 0] S=some (.tup [],S')∧nD S0 S' ob (p++bU n)∧S'.objs.length=S.objs.length∧∀i,i≠ob→S'.objs[i]?=S.objs[i]?:=by
 obtain⟨hno,bv,ho,ha⟩:=h;have hlo:=(aL.1 ho).1;have hu:=ec (n:=n) (by omega);obtain⟨v1,S1,c1,c2,c3⟩:=lV (s:=[]) (v:=.nils) (.inl ⟨rfl,rfl⟩) (n:=n) (by omega) (by simp) (S0:=S) (S:=S) (aV.refl S);have c1:=jf c1;have ha1:=ha.more c2.grows;obtain⟨v2,S2,d1,d2,d3⟩:=ha1.app (bytes:=1) (aJ (bU n)) (by rw[bo,bo];omega);have hap:=(c2.isSl (kN _)).appdS (S:=S1);simp only[zT]at hap;have ho1:S1.objs[ob]?=some [bv]:=by rw[c3];exact ho
 have ho2:S2.objs[ob]?=some [bv]:=by rw[d3];exact ho1
 have hlo2:ob<S2.objs.length:=(aL.1 ho2).1
 obtain⟨o1,o2⟩:v2.one=true∧v2.cells=[v2]:=by
  rcases d2.acc with⟨rfl,_⟩|⟨_,_,rfl,_⟩<;>exact⟨rfl,rfl⟩
 have hne:[bv]≠[v2]:=fun e=>by
  have e:=List.cons.inj e;exact Af ha d2 (by simp only[ak,bo];have:=Ae n;omega) e.1
 refine⟨⟨S2.objs.set ob [v2],S2.tips⟩,?_,⟨hno,v2,by simp only;rw[dd hlo2],?_⟩,by simp[d3,c3],fun i hi=>by simp only;rw[bq (Ne.symm hi),d3,c3]⟩
 ·refine cM Td rfl ?_;simp -implicitDefEqProofs [pG,c1,dG ho1,dD,hap,d1,aH,ho2,o1,o2,bB];rw[sF];exact Ad (i:=ob) (by simp[d3,c3]) ho (by simp only;rw[dd hlo2]) hne
 ·rw[mz];exact d2.setO hno _
def Ah{S0 S:St}{ob o8:Nat}{p x:List UInt8}(h:nD S0 S ob p)(hp:p.length+x.length≤60000000)(h8:S.objs[o8]?=some [.fn 261 [.ptr ob 0]])(hne8:o8≠ob){xv:PV}(hx:cU 1 xv (aJ x)) :
  ∃S',aS T1 262 [xv,.ptr o8 0,.ptr ob 0] S=some (.tup [],S')∧nD S0 S' ob (p++dP x)∧S'.objs.length=S.objs.length∧∀i,i≠ob→S'.objs[i]?=S.objs[i]?:=by
 have hlen:=hx.len;rw[bo]at hlen;obtain⟨S1,c1,c2,c3,c4⟩:=Ag h (by omega) (n:=x.length) (by omega);obtain⟨hno,bv0,ho0,ha0⟩:=h;obtain⟨_,bv,ho,ha⟩:=c2;have hlo:=(aL.1 ho).1;have hu:=ec (n:=x.length) (by omega);obtain⟨v2,S2,d1,d2,d3⟩:=ha.app (bytes:=1) (aJ x) (by rw[bo,bo,ak];omega);have hap:=hx.appdS (S:=S1);have ho2:S2.objs[ob]?=some [bv]:=by rw[d3];exact ho
 have hlo2:ob<S2.objs.length:=(aL.1 ho2).1
 obtain⟨o1,o2⟩:v2.one=true∧v2.cells=[v2]:=by
  rcases d2.acc with⟨rfl,_⟩|⟨_,_,rfl,_⟩<;>exact⟨rfl,rfl⟩
 have hne:[bv0]≠[v2]:=fun e=>by
  have e:=List.cons.inj e;exact Af ha0 d2 (by simp only[ak,bo];have:=Ae x.length;omega) e.1
 refine⟨⟨S2.objs.set ob [v2],S2.tips⟩,?_,⟨hno,v2,by simp only;rw[dd hlo2],?_⟩,by simp[d3,c3],fun i hi=>by simp only;rw[bq (Ne.symm hi),d3];exact c4 i hi⟩
 ·refine cM Te rfl ?_;simp -implicitDefEqProofs [z26,hlen,dG h8,dD,c1,dG ho,hap,d1,aH,ho2,o1,o2,bB];rw[sF];exact Ad (i:=ob) (by simp[d3,c3]) ho0 (by simp only;rw[dd hlo2]) hne
 ·rw[dP,←eh,mz];exact d2.setO hno _
def Tf:T1.fn 161=some (.code pI):=rfl
def uf{a k:Nat}(hk:k≤32){l:IntKind}:arith .shr (.int .u32 (a:Int)) (.int l (k:Int))=some (.int .u32 ((a/2^k:Nat):Int)):=by
 have h1:¬((k:Int)<0):=by omega
 have h2:min (k:Int).toNat IntKind.u32.bits=k:=by simp[IntKind.bits];omega
 simp only[arith,eN,nL,if_true,if_neg h1,h2];rw[ml _ (by exact_mod_cast bh (2^k))]
 norm_cast
def Tg(b:List UInt8):∃n:Nat,ir b=(n:Int)∧n<4294967296:=by
 refine⟨(BitVec.ofInt 32 4294967295 ^^^ BitVec.ofInt 32 (oY b)).toNat,?_,(BitVec.ofInt 32 4294967295 ^^^ BitVec.ofInt 32 (oY b)).isLt⟩;have hlt:=(BitVec.ofInt 32 4294967295 ^^^ BitVec.ofInt 32 (oY b)).isLt
 have:∀n:Nat,n<2^32→IntKind.u32.wrap (n:Int)=(n:Int):=fun n hn=>by
  have e:IntKind.u32.wrap (n:Int)=(n:Int)%4294967296:=by simp[IntKind.wrap,IntKind.bits,IntKind.signed]
  rw[e];omega
 exact this _ hlt
def Ai{b:List UInt8}{v:PV}(hv:cn 1 v (aJ b))(hb:b.length≤67108864)(S:St):aS T1 161 [v] S=some (.sl none (aJ (dE b)) [],S):=by
 have hs:=fun S=>jf (RS hv hb S);obtain⟨n,hn,hlt⟩:=Tg b;have h0:IntKind.u8.wrap (n:Int)=((n%256:Nat):Int):=jb n;have h1:=uf (a:=n) (k:=8) (l:=.u64) (by decide);have h2:=uf (a:=n) (k:=16) (l:=.u64) (by decide);have h3:=uf (a:=n) (k:=24) (l:=.u64) (by decide);have w1:IntKind.u8.wrap ((n/2^8:Nat):Int)=((n/256%256:Nat):Int):=jb _;have w2:IntKind.u8.wrap ((n/2^16:Nat):Int)=((n/65536%256:Nat):Int):=jb _;have w3:IntKind.u8.wrap ((n/2^24:Nat):Int)=((n/16777216%256:Nat):Int):=jb _
 have e4:aJ (dE b)=[.int .u8 ((n%256:Nat):Int),.int .u8 ((n/256%256:Nat):Int),.int .u8 ((n/65536%256:Nat):Int),.int .u8 ((n/16777216%256:Nat):Int)]:=by
  simp only[dE,hn,tU,aJ,cB,lR];have:∀m:Nat,(UInt8.ofNat (m%256)).toNat=m%256:=fun m=>by simp
  rw[this,this,this,this]
 rw[hn]at hs;generalize ((n/2^8:Nat):Int)=x1 at h1 w1;generalize ((n/2^16:Nat):Int)=x2 at h2 w2;generalize ((n/2^24:Nat):Int)=x3 at h3 w3;rw[e4];generalize ((n%256:Nat):Int)=y0 at *;generalize ((n/256%256:Nat):Int)=y1 at *;generalize ((n/65536%256:Nat):Int)=y2 at *;generalize ((n/16777216%256:Nat):Int)=y3 at *;have h1:arith .shr (.int .u32 (n:Int)) (.int .u64 8)=some (.int .u32 x1):=h1;have h2:arith .shr (.int .u32 (n:Int)) (.int .u64 16)=some (.int .u32 x2):=h2;have h3:arith .shr (.int .u32 (n:Int)) (.int .u64 24)=some (.int .u32 x3):=h3;refine cM Tf rfl ?_;simp -implicitDefEqProofs [pI,hs,h0,h1,h2,h3,w1,w2,w3,aH,cx,eP,dF];rw[gE ⟨[],[(4,1)],by simp⟩ rfl];rfl
end Ps
set_option linter.defProp false
namespace Ps
set_option linter.unusedSimpArgs false
set_option linter.unusedVariables false
open Go Go.Proofs
def Th{l:List Sm}:∀(n i:Nat),l.length-i=n→(ce l i=0↔∀j (h:j<l.length),i≤j→cw l j h=0):=by
 intro n
 induction n with
 |zero=>
  intro i hi;rw[ce,dif_neg (by omega)]
  exact⟨fun _ j h hj=>by omega,fun _=>rfl⟩
 |succ n ih=>
  intro i hi;rw[ce,dif_pos (by omega)];by_cases h0:cw l i (by omega)=0
  ·rw[if_pos h0,ih (i+1) (by omega)];constructor
   ·intro k j h hj;by_cases e:j=i
    ·subst e;exact h0
    ·exact k j h (by omega)
   ·intro k j h hj;exact k j h (by omega)
  ·rw[if_neg h0];exact⟨fun e=>absurd e h0,fun k=>absurd (k i (by omega) (aR _)) h0⟩
def Aj{l:List Sm}{i:Nat}(h:i<l.length):cw l i h=0↔fM l[i].1 l[i].2=true∧∀h0:0<i,l[i-1].1<l[i].1:=by
 unfold cw
 cases hm:fM l[i].1 l[i].2 with
 |false=>simp
 |true=>
  rw[if_neg (by decide)];by_cases h0:0<i
  ·rw[dif_pos h0];split
   ·rename_i hle;constructor
    ·intro e;cases e
    ·rintro⟨_,k⟩;have:=k h0;omega
   ·rename_i hle;simp only[true_and,true_iff];intro _;omega
  ·rw[dif_neg h0];simp only[true_and,true_iff];intro k;exact absurd k h0
def gx(l:List Sm):Prop:=∀(i:Nat) (h:i<l.length),fM l[i].1 l[i].2=true∧∀h0:0<i,l[i-1].1<l[i].1
def Ak{l:List Sm}:ce l 0=0↔gx l:=by
 rw[Th l.length 0 rfl];constructor
 ·intro k i h;exact(Aj h).1 (k i h (bh _))
 ·intro k i h _;exact(Aj h).2 (k i h)
def gx.take{l:List Sm}(h:gx l)(k:Nat):gx (l.take k):=by
 intro i hi;have hi':i<l.length:=by simp at hi;omega
 obtain⟨h1,h2⟩:=h i hi';refine⟨by simpa using h1,fun h0=>by simpa using h2 h0⟩
def gx.drop{l:List Sm}(h:gx l)(k:Nat):gx (l.drop k):=by
 intro i hi;have hi':k+i<l.length:=by simp at hi;omega
 obtain⟨h1,h2⟩:=h (k+i) hi';refine⟨by simpa using h1,fun h0=>?_⟩;have:=h2 (by omega);simp only[List.getElem_drop];have e:k+i-1=k+(i-1):=by omega
 simpa[e]using this
def Ti{l:List Sm}(h:gx l)(h0:l≠[])(h1:l.length≤120):eS l=0:=by
 unfold eS;rw[if_neg (by have:=List.length_pos_iff.2 h0;omega)];exact Ak.2 h
def Al:∀(n:Nat) (l:List Sm),l.length=n→gx l→∀c∈cz l,eS c=0:=by
 intro n
 induction n using Nat.strongRecOn with
 |_ n ih=>
  intro l hn h c hc;rw[cz]at hc;split at hc
  ·cases hc
  ·rename_i hl;have:=List.length_pos_iff.2 hl;rcases cY.1 hc with rfl|hc
   ·exact Ti (h.take 120) (by intro e;have:=congrArg List.length e;rw[iG,cP]at this;omega) (by rw[iG];omega)
   ·exact ih (l.drop 120).length (by rw[oP];omega) _ rfl (h.drop 120) c hc
def Am:∀(n:Nat) (l:List Sm),l.length=n→(cz l).length=(l.length+119)/120:=by
 intro n
 induction n using Nat.strongRecOn with
 |_ n ih=>
  intro l hn;rw[cz];split
  ·rename_i hl;subst hl;rfl
  ·rename_i hl;have:=List.length_pos_iff.2 hl;rw[bE,ih (l.drop 120).length (by rw[oP];omega) (l.drop 120) rfl];simp;omega
structure ug(l:List cA):Prop where
 len:l.length≤256
 sum:cV l≤65536
 ix:ey (l.map (·.1))=0
 ser:∀s∈l,s.2≠[]∧gx s.2
def Tj{l:List cA}:∀(n i:Nat),l.length-i=n→iL l i=0→∀j (h:j<l.length),i≤j→l[j].2≠[]∧ce l[j].2 0=0:=by
 intro n
 induction n with
 |zero=>intro i hi _ j h hij;omega
 |succ n ih=>
  intro i hi h j hj hij;have hil:i<l.length:=by omega
  rw[iL,dif_pos hil]at h;split at h
  ·cases h
  ·rename_i h0;split at h
   ·rename_i hz;by_cases e:i=j
    ·subst e;exact⟨fun e=>h0 (by rw[e];rfl),hz⟩
    ·exact ih (i+1) (by omega) h j hj (by omega)
   ·rename_i hz;exact absurd h hz
def Ao{l:List cA}(h:dH l=0):ug l:=by
 unfold dH at h;split at h
 ·cases h
 rename_i h1;split at h
 ·rename_i h2;exact absurd h h2
 rename_i h2;refine⟨by omega,by omega,by omega,fun s hs=>?_⟩;obtain⟨i,hi,rfl⟩:=iF hs;obtain⟨a,b⟩:=Tj l.length 0 (by omega) h i hi (bh _);exact⟨a,Ak.1 b⟩
def Tk{c:List Sm}(h:eS c=0):(eT c).length≤2140:=by
 have hk:=AM h;have h1:=AN hk (c.length-1);have h2:=hk.len;unfold eT;rw[uS];omega
def Ap{x:List UInt8}(h:x.length≤1000000000):(dP x).length≤x.length+9:=by
 have:=ec (n:=x.length) (by omega);simp only[dP,ak];omega
theorem Aq:∀(m:List (List Sm)),(∀c∈m,eS c=0)→(m.flatMap fun c=>dP (eT c)).length≤2149*m.length
 | [],_=>by simp
 |c::m,h=>by
  have h1:=Aq m fun c hc=>h c (by simp[hc]);have h2:=Tk (h c (by simp));have h3:=Ap (x:=eT c) (by omega);simp only[dB,ak,bE];omega
def Tl{s:cA}(h:gx s.2)(hl:s.2.length≤65536):(eJ s).length≤9+2149*((s.2.length+119)/120):=by
 have h1:=Aq (cz s.2) (Al _ _ rfl h);have h2:=Am _ s.2 rfl;have h3:=ec (n:=(cz s.2).length) (by omega);simp only[eJ,ak];rw[h2]at h1 h3;rw[h2];omega
theorem Ar:∀(l:List cA),(∀s∈l,gx s.2)→cV l≤65536→(l.flatMap eJ).length≤2158*l.length+18*cV l
 | [],_,_=>by simp
 |s::l,h,ht=>by
  have e:cV (s::l)=s.2.length+cV l:=by simp[cV]
  rw[e]at ht ⊢;have h1:=Ar l (fun c hc=>h c (by simp[hc])) (by omega);have h2:=Tl (h s (by simp)) (by omega);simp only[dB,ak,bE];have h3:2149*((s.2.length+119)/120)≤2149+18*s.2.length:=by omega
  omega
def At{ls:List (List ad)}(h:fy ls):(df ls).length≤400000:=by
 have h1:=nC h;have h2:=uc h ls h.set;have h3:=h.len;have h4:=ec (n:=(bp ls).length) (by omega);have h5:=ec (n:=ls.length) (by omega)
 have h6:∀l:List Wd,(∀w∈l,w.length≤64)→(l.flatMap fL).length≤73*l.length:=by
  intro l
  induction l with
  |nil=>intro _;simp
  |cons a l ih=>
   intro h;have h1:=ih fun w hw=>h w (by simp[hw]);have h2:=h a (by simp);have h3:=ec (n:=a.length) (by omega);simp only[dB,ak,bE,fL];omega
 have h7:=h6 (bp ls) fun w hw=>uZ h (rE.1 hw);rw[ub];simp only[ak];omega
def Au{l:List cA}(h:ug l):(dt l).length≤3000000:=by
 have h1:=At (uY h.ix);have h2:=Ap (x:=df (l.map (·.1))) (by omega);have h3:=Ar l (fun s hs=>(h.ser s hs).2) h.sum;have h4:=h.len;have h5:=h.sum;simp only[dt,ak];have:fN.length=4:=rfl;omega
def Av{α:Type}(f:α→List UInt8)(l:List α)(i:Nat):((l.take i).flatMap f).length≤(l.flatMap f).length:=by
 conv=>rhs;rw[←kI i l,lQ,ak]
 omega
end Ps
