/- What the law makes of a block: its own copy; block.Check of it, and the document's Same. -/
import Derived.Test.YtpjmpaidcidjgaaGreatDoorAbbKw
import Derived.Test.YtpjmpaidcidjgaaGreatDoorHLKw
import Derived.Test.YtpjmpaidcidjgaaGreatDoorHDKw
import Derived.Test.YtpjmpaidcidjgaaGreatDoorRowKw
set_option linter.defProp false
namespace Ps
set_option linter.unusedSimpArgs false
set_option linter.unusedVariables false
open Go Go.Proofs
set_option maxRecDepth 100000
def aAq{S0:St}{K:List Kt}{Q:Fr→St→Prop}{xv iv:PV}:∀(n:Nat) (l:List Sm),l.length=n→n≤65536→(∀c∈bi l,dZ c=0)→∀(p:List UInt8) (v:PV) (fr:Fr) (S:St),p.length+2149*(bi l).length≤100000000 →
  cF 2 v (l.map bB)→fr 6=v→fr 0=xv→fr 5=iv→ad S0 1 S (fr 4) (aI p) →
  (∀fr' S',fr' 0=xv→fr' 5=iv→ad S0 1 S' (fr' 4) (aI (p++(bi l).flatMap fun c=>cK (cS c)))→Ok (aE T K fr' S') Q) →
  Ok (aE T (.lp xf::.blk 2::K) fr S) Q:=by
 intro n
 induction n using Nat.strongRecOn with
 |_ n ih=>
  intro l hln hn hch p v fr S hb hv h6 h0 h5 ha kk;have hlen:=hv.len;rw[bU]at hlen;rw[aV];by_cases hl:l=[]
  ·subst hl;simp -implicitDefEqProofs [h6,hlen];refine kk _ _ (by simp[h0]) (by simp[h5]) ?_;rw[bi,dif_pos rfl];simpa using ha
  ·have hpos2:0<l.length:=List.length_pos_iff.2 hl;have hpos:(0:Int)<(l.length:Int):=by omega
   have hmin:(if(l.length:Int)<120 then(l.length:Int)else(120:Int))=((min 120 l.length:Nat):Int):=by split<;>omega
   obtain⟨v1,s1,s2⟩:=Bx hv (hi:=min 120 l.length) (k:=.i64) (by rw[bU];omega);obtain⟨v2,s3,s4⟩:=hv.lo (lo:=min 120 l.length) (k:=.i64) (by rw[bU];omega)
   have e1:(l.map bB).take (min 120 l.length)=(l.take 120).map bB:=by
    rw[←ve];congr 1;by_cases h:120≤l.length
    ·rw[mD h]
    ·rw[Nat.min_eq_right (by omega),jz (by omega),jz (by omega)]
   have e2:(l.map bB).drop (min 120 l.length)=(l.drop 120).map bB:=by
    rw[←vd];congr 1;by_cases h:120≤l.length
    ·rw[mD h]
    ·rw[Nat.min_eq_right (by omega),sF (by omega),sF (by omega)]
   rw[e1]at s2;rw[e2]at s4;have hcut:bi l=l.take 120::bi (l.drop 120):=by rw[bi,dif_neg hl]
   have hc0:=hch (l.take 120) (by rw[hcut];simp);have hel:=CX hc0;obtain⟨bv,r1,r2⟩:=Zd s2.reads hc0 S;have hbl:=r2.len;rw[bN]at hbl;have hcl:(bi l).length=(bi (l.drop 120)).length+1:=by rw[hcut];rfl
   obtain⟨u1,T1,w1,S1,c0,c1,c2,c3,c4⟩:=mi ha (n:=(cS (l.take 120)).length) (by omega) (by omega);have hu:=dK (n:=(cS (l.take 120)).length) (by omega);have hap:=r2.appd S1;obtain⟨w2,S2,d1,d2,d3⟩:=c3.app (bytes:=1) (aI (cS (l.take 120))) (by rw[bN,bN,aZ];omega);rw[←gF]at d2;have hpb:(cK (cS (l.take 120))).length≤2149:=by simp only[cK,aZ];omega
   have hL:=ih (l.drop 120).length (by simp;omega) (l.drop 120) rfl (by simp;omega) (fun c hc=>hch c (by rw[hcut];simp[hc])) (p++cK (cS (l.take 120))) v2;have d2':ad S0 1 S2 w2 (aI (p++cK (cS (l.take 120)))):=by simpa[cK]using d2
   have kk':∀fr' S',fr' 0=xv→fr' 5=iv→ad S0 1 S' (fr' 4) (aI (p++cK (cS (l.take 120))++(bi (l.drop 120)).flatMap fun c=>cK (cS c)))→Ok (aE T K fr' S') Q:=fun fr' S' q0 q5 qa=>kk fr' S' q0 q5 (by rw[hcut];simpa using qa);clear ih e1 e2 hch hcut s2 d2 kk;generalize cK (cS (l.take 120))=PB at *;generalize cS (l.take 120)=EB at *;generalize min 120 l.length=mm at *;generalize l.length=ll at *;simp -implicitDefEqProofs [h6,hlen,hpos,hpos2,hmin,s1,s3,r1,hbl,c0,c1,c2,hap,d1];exact hL _ _ (by simp only[aZ];omega) s4 (by simp) (by simp[h0]) (by simp[h5]) (by simpa using d2') kk'
def aAr{l:List bf}(h:pj l){v:PV}(hv:eK v l){S0:St}{p:List UInt8}(hp:p.length+(l.flatMap dA).length≤4000000){K:List Kt}{Q:Fr→St→Prop}{fr:Fr}{S:St}
  (h0:fr 0=v)(h5:fr 5=.int .i64 0)(ha:ad S0 1 S (fr 4) (aI p))(kk:∀fr' S',ad S0 1 S' (fr' 4) (aI (p++l.flatMap dA))→Ok (aE T K fr' S') Q) :
  Ok (aE T (.lp tG::.blk 0::K) fr S) Q:=by
 obtain⟨hlen,hget⟩:=hv.get;have hl:=h.len;refine db l.length (fun i fr' S'=>fr' 0=v∧fr' 5=.int .i64 (i:Int)∧ad S0 1 S' (fr' 4) (aI (p++(l.take i).flatMap dA))) ?_ ?_ 0 (bb _) _ _ ⟨h0,by simpa using h5,by simpa using ha⟩
 ·rintro i fr' S' hi ⟨g0,g5,ga⟩ k;obtain⟨lv,sv,hg,hlv,hsv⟩:=hget i hi;have hii:(i:Int)<(l.length:Int):=by omega
  have hw:IntKind.i64.wrap ((i:Int)+1)=((i+1:Nat):Int):=by rw[au]<;>omega
  have hsl:=hsv.len;rw[bU]at hsl;obtain⟨o1,o2⟩:=hsv.one;obtain⟨hne,hri⟩:=h.ser _ (cr hi);have hsum:=h.sum
  have hs1:l[i].2.length≤bZ l:=by
   have e1:=QL l (i+1);rw[lK hi,QM]at e1;omega
  have hcl:=wO _ l[i].2 rfl;have hpre:=wP dA l (i+1);rw[lK hi,List.flatMap_append,List.flatMap_singleton,aZ]at hpre;have hsb:=Ca hri (by omega);obtain⟨u1,T1,w1,S1,c0,c1,c2,c3,c4⟩:=mi ga (n:=(bi l[i].2).length) (by omega) (by rw[aZ];omega);have hu:=dK (n:=(bi l[i].2).length) (by omega);have q1:IntKind.i64.wrap ((l[i].2.length:Int)+120)=((l[i].2.length+120:Nat):Int):=by rw[au]<;>omega
  have q2:IntKind.i64.wrap (((l[i].2.length+120:Nat):Int)-1)=((l[i].2.length+119:Nat):Int):=by rw[au]<;>omega
  have q3:IntKind.i64.wrap (((l[i].2.length+119:Nat):Int)/120)=(((bi l[i].2).length:Nat):Int):=by rw[hcl,au]<;>omega
  have hchk:=wN _ l[i].2 rfl hri;have hbnd:p.length+((l.take i).flatMap dA).length+(bI (bi l[i].2).length).length+2149*(bi l[i].2).length≤100000000:=by omega
  have hfin:∀fr2 S2,fr2 0=v→fr2 5=.int .i64 (i:Int)→ad S0 1 S2 (fr2 4) (aI (p++(l.take i).flatMap dA++bI (bi l[i].2).length++(bi l[i].2).flatMap fun c=>cK (cS c))) →
    Ok (aE T (.blk 1::.code (.clr [(27,29)] (.region xg))::.lp tG::.blk 0::K) fr2 S2) Q:=by
   intro fr2 S2 e0 e5 ea;simp -implicitDefEqProofs [e5];refine k _ _ ⟨by simp[e0],by simp[hw],?_⟩
   have e:p++(l.take (i+1)).flatMap dA=p++(l.take i).flatMap dA++bI (bi l[i].2).length++(bi l[i].2).flatMap fun c=>cK (cS c):=by
    rw[lK hi,List.flatMap_append,List.flatMap_singleton];simp only[dA,List.append_assoc]
   rw[e];simpa using ea
  clear k;generalize hcle:(bi l[i].2).length=cl at *;generalize l[i].2.length+120=x1 at *;generalize l[i].2.length+119=x2 at *;rw[aV];simp -implicitDefEqProofs [g0,g5,hlen,hi,hii,hg,bM,o1,o2,hsl,q1,q2,q3,c0,c1,c2];refine aAq (xv:=v) (iv:=.int .i64 (i:Int)) _ l[i].2 rfl (by omega) hchk (p++(l.take i).flatMap dA++bI cl) sv _ S1 ?_ hsv.isl (by simp) (by simp[g0]) (by simp[g5]) (by simpa using c3) (fun fr2 S2 e0 e5 ea=>?_)
  ·rw[hcle];simp only[aZ];omega
  ·simpa using hfin fr2 S2 e0 e5 ea
 ·rintro fr' S' ⟨g0,g5,ga⟩;rw[List.take_length]at ga;rw[aV];simp -implicitDefEqProofs [g0,g5,hlen];exact kk _ _ (by simpa using ga)
def aAs:T.fn 152=some (.code mT):=rfl
def aAt{l:List bf}{v:PV}(h:pj l)(hv:eK v l)(S:St):∃v',aM T 152 [v] S=some (v',S)∧am 1 v' (aI (fb l)):=by
 obtain⟨sv,hs1,hs2⟩:=QK hv h.len S;obtain⟨iv,hi1,hi2⟩:=aAh (sj h.ix) hs2 S;have hbl:=Cd h;have hbe:fD l=fU++cK (dP (l.map (·.1)))++l.flatMap dA:=rfl;have hbl2:=hbl;rw[hbe]at hbl2;simp only[aZ,cK]at hbl2;have hiv:=hi2.len;rw[bN]at hiv;have a0:ad S 1 ⟨S.objs,S.tips++[(4,1)]⟩ (.sl (some (S.tips.length,4)) [.int .u8 71,.int .u8 66,.int .u8 75,.int .u8 49] []) (aI fU):=rD 1 (aI fU) (aN.refl S);obtain⟨u1,T1,w1,S1,c0,c1,c2,c3,c4⟩:=mi a0 (n:=(dP (l.map (·.1))).length) (by omega) (by decide);have hap:=hi2.appd S1;obtain⟨w2,S2,d1,d2,d3⟩:=c3.app (bytes:=1) (aI (dP (l.map (·.1)))) (by rw[bN,bN,aZ];omega);rw[←gF]at d2;have d2':ad S 1 S2 w2 (aI (fU++cK (dP (l.map (·.1))))):=by simpa[cK]using d2
 have hp0:(fU++cK (dP (l.map (·.1)))).length+(l.flatMap dA).length≤4000000:=by
  simp only[aZ,cK];omega
 have main:∀Q:Fr→St→Prop,(∀fr' S',ad S 1 S' (fr' 2) (aI (fb l))→Q fr' S')→Ok (aE T [.code mT.body] (bg [v]) S) Q:=by
  intro Q hQ
  have hend:∀fr' S',ad S 1 S' (fr' 4) (aI (fD l))→Ok (aE T [.code (.seq (.clr [(65,67)] (.region xh)) (.seq (.clr [(67,81)] (.region xi)) .ret))] fr' S') Q:=by
   intro fr' S' ga;have hs:=fun S=>Zn (s:=fD l) (ga.isSl (iE _)).reads (by omega) S;obtain⟨n,hn,hlt⟩:=CT (fD l);have h0:IntKind.u8.wrap (n:Int)=((n%256:Nat):Int):=iD n;have h1:=nr (a:=n) (k:=8) (l:=.u64) (by decide);have h2:=nr (a:=n) (k:=16) (l:=.u64) (by decide);have h3:=nr (a:=n) (k:=24) (l:=.u64) (by decide);have w1:IntKind.u8.wrap ((n/2^8:Nat):Int)=((n/256%256:Nat):Int):=iD _;have w2:IntKind.u8.wrap ((n/2^16:Nat):Int)=((n/65536%256:Nat):Int):=iD _;have w3:IntKind.u8.wrap ((n/2^24:Nat):Int)=((n/16777216%256:Nat):Int):=iD _
   have e4:aI (iW (fD l))=[.int .u8 ((n%256:Nat):Int),.int .u8 ((n/256%256:Nat):Int),.int .u8 ((n/65536%256:Nat):Int),.int .u8 ((n/16777216%256:Nat):Int)]:=by
    simp only[iW,hn,pG,aI,cV,lz];have:∀m:Nat,(UInt8.ofNat (m%256)).toNat=m%256:=fun m=>by simp
    rw[this,this,this,this]
   obtain⟨x2,S5,a1,a2,a3⟩:=(ga.arrs [(4,1)]).app (bytes:=1) (aI (iW (fD l))) (by rw[bN,bN];have:(iW (fD l)).length=4:=rfl;omega);rw[←gF]at a2;have a2:ad S 1 S5 x2 (aI (fb l)):=a2;rw[hn]at hs;rw[e4]at a1;generalize ((n/2^8:Nat):Int)=x1 at h1 w1;generalize ((n/2^16:Nat):Int)=y1 at h2 w2;generalize ((n/2^24:Nat):Int)=z1 at h3 w3;generalize ((n%256:Nat):Int)=t0 at *;generalize ((n/256%256:Nat):Int)=t1 at *;generalize ((n/65536%256:Nat):Int)=t2 at *;generalize ((n/16777216%256:Nat):Int)=t3 at *;have h1:arith .shr (.int .u32 (n:Int)) (.int .u64 8)=some (.int .u32 x1):=h1;have h2:arith .shr (.int .u32 (n:Int)) (.int .u64 16)=some (.int .u32 y1):=h2;have h3:arith .shr (.int .u32 (n:Int)) (.int .u64 24)=some (.int .u32 z1):=h3;simp -implicitDefEqProofs [hs,h0,h1,h2,h3,w1,w2,w3,aH,cA,cc,dQ,a1];exact hQ _ _ (by simpa using a2)
  clear hQ;generalize ((dP (l.map (·.1))).length:Int)=il at *;simp -implicitDefEqProofs [mT,hs1,hi1,hiv,aH,cA,cc,c0,c1,c2,hap,d1];refine aAr h hv (p:=fU++cK (dP (l.map (·.1)))) hp0 (by simp) (by simp) (by simpa using d2') (fun fr' S' ga=>hend fr' S' ga)
 obtain⟨r,S2,e,e2,e3⟩:=gt (T:=T) aAs (args:=[v]) (S:=S) rfl (R:=fun r S2=>S2=S∧am 1 r (aI (fb l))) (main _ (fun fr' S' ha=>by
  obtain⟨f1,f2⟩:=ha.sl0 (iE _) (sS _) (sT _);exact⟨[fr' 2],by simp[mT,bh,fN],congrArg Prod.snd f1,by show am 1 (ak false S S' (fr' 2)).1 _;rw[f1];exact f2⟩))
 subst e2;exact⟨r,e,e3⟩
def QO:T.fn 63=some (.code z46):=rfl
def aAu{l:List bf}{v:PV}(hv:eK v l)(h:rB l)(hz:dU l=0)(S:St):∃bv,aM T 63 [v] S=some (.tup [bv,.int .i64 0],S)∧am 1 bv (aI (fb l)):=by
 have hck:=fun S=>yy hv h S;rw[hz]at hck;have hck:∀S,aM T 151 [v] S=some (.int .i64 0,S):=hck;obtain⟨bv,hb1,hb2⟩:=aAt (CW hz) hv S;refine⟨bv,bP QO rfl ?_,hb2⟩;simp -implicitDefEqProofs [z46,hck,hb1]
 have e:ak false S S (.tup [bv,.int .i64 0])=(.tup [bv,.int .i64 0],S):=by
  rw[eR (aN.refl S) (by simp[PV.free,PV.freeL,hb2.free])];simp[PV.frz,PV.frzL,hb2.frz]
 exact e
def aAv{l:List bf}{v:PV}(hv:eK v l)(h:rB l)(hz:dU l≠0)(S:St):aM T 63 [v] S=some (.tup [.nils,.int .i64 (dU l:Nat)],S):=by
 have hck:=fun S=>yy hv h S;have hc:(((dU l:Nat):Int) != 0)=true:=by simpa using hz
 generalize ((dU l:Nat):Int)=e at hck hc;refine bP QO rfl ?_;simp -implicitDefEqProofs [z46,hck,hc];exact eR (aN.refl S) rfl
end Ps
namespace Ps
set_option linter.unusedSimpArgs false
set_option linter.unusedVariables false
open Go Go.Proofs
set_option maxRecDepth 100000
end Ps
namespace Ps
set_option linter.unusedSimpArgs false
set_option linter.unusedVariables false
open Go Go.Proofs
set_option maxRecDepth 100000
end Ps
set_option linter.defProp false
namespace Ps
set_option linter.unusedSimpArgs false
set_option linter.unusedVariables false
open Go Go.Proofs
set_option maxRecDepth 100000
abbrev fc:Ty:=.st (.pair (.int .i64) (.pair (.int .i64) .unit))
abbrev cP:Ty:=.st (.pair (.sl gE) (.pair (.sl fc) .unit))
def jn(x:fc.den):Sm:=(x.1,x.2.1)
def qt(x:(Ty.sl fc).den):List Sm:=match x with|none=>[]|some q=>q.1.map jn
def td(x:cP.den):bf:=(ng x.1,qt x.2.1)
def iK(x:(Ty.sl cP).den):List bf:=match x with|none=>[]|some q=>q.1.map td
def YP(x:(Ty.sl gE).den):am 2 ((Ty.sl gE).pv x) ((ng x).map ac):=by
 cases x with
 |none=>exact ib 2
 |some q=>
  obtain⟨es,sp⟩:=q;exact⟨.inr ⟨sp.map ac,rfl,nh sp,kD sp,jY sp⟩,nh es,kD es,jY es⟩
def YQ(x:(Ty.sl fc).den):am 2 ((Ty.sl fc).pv x) ((qt x).map bB):=by
 cases x with
 |none=>exact ib 2
 |some q=>
  obtain⟨es,sp⟩:=q;have e:(qt (some (es,sp))).map bB=es.map fun x=>bB (jn x):=by simp[qt,Function.comp_def]
  rw[e];have hc:∀l:List fc.den,∀v∈l.map fun x=>bB (jn x),v.cells.length=2:=fun l v hv=>by obtain⟨_,_,rfl⟩:=List.mem_map.1 hv;rfl
  have hf:∀l:List fc.den,PV.freeL (l.map fun x=>bB (jn x))=true:=fun l=>gv (fun x=>bB (jn x)) (fun _=>rfl) l;have hz:∀l:List fc.den,PV.frzL (l.map fun x=>bB (jn x))=l.map fun x=>bB (jn x):=fun l=>gS (fun x=>bB (jn x)) (fun _=>rfl) l;exact⟨.inr ⟨sp.map fun x=>bB (jn x),rfl,hc sp,hf sp,hz sp⟩,hc es,hf es,hz es⟩
def te(x:cP.den):iT (cP.pv x) (td x):=by
 obtain⟨l,s,⟨⟩⟩:=x;refine⟨(Ty.sl gE).pv l,(Ty.sl fc).pv s,?_,YP l,YQ s⟩;cases l<;>cases s<;>rfl
def YR(x:(Ty.sl cP).den):eK ((Ty.sl cP).pv x) (iK x):=by
 cases x with
 |none=>exact⟨[],ib 2,rfl,fun i h h'=>by simp at h'⟩
 |some q=>
  obtain⟨es,sp⟩:=q;have hc:∀l:List cP.den,∀v∈l.map cP.pv,v.cells.length=2:=fun l v hv=>by obtain⟨x,_,rfl⟩:=List.mem_map.1 hv;exact(te x).cells
  have hf:∀l:List cP.den,PV.freeL (l.map cP.pv)=true:=fun l=>gv cP.pv (fun x=>(te x).free) l;have hz:∀l:List cP.den,PV.frzL (l.map cP.pv)=l.map cP.pv:=fun l=>gS cP.pv (fun x=>(te x).frz) l;refine⟨es.map cP.pv,⟨.inr ⟨sp.map cP.pv,rfl,hc sp,hf sp,hz sp⟩,hc es,hf es,hz es⟩,by simp[iK],fun i h h'=>?_⟩;simp only[iK,List.getElem_map];exact te _
theorem yb{t:Ty}:∀{l:List t.den} {x:t.den},x∈l→t.bulk x≤(l.map t.bulk).sum
 |a::l,x,h=>by
  rw[cV,vh];rcases cQ.1 h with rfl|h
  ·omega
  ·have:=yb h;omega
def PO(x:(Ty.sl fc).den):(qt x).length≤(Ty.sl fc).bulk x:=by
 cases x with
 |none=>exact bb _
 |some q=>
  obtain⟨es,sp⟩:=q;have h:es.length≤(es.map (Ty.bulk fc)).sum:=sP fc (fun _=>BE (bb _)) es;show(es.map jn).length≤(es.map (Ty.bulk fc)).sum+(sp.map (Ty.bulk fc)).sum+1;rw[bU];omega
def PQ{x:(Ty.sl cP).den}(hw:(Ty.sl cP).wf x)(hb:(Ty.sl cP).bulk x≤1048576):(iK x).length≤1048576∧sq (iK x):=by
 cases x with
 |none=>exact⟨bb _,fun s hs=>by simp[iK]at hs⟩
 |some q=>
  obtain⟨es,sp⟩:=q
  have hbk:(es.map (Ty.bulk cP)).sum≤1048576:=by
   have:(es.map (Ty.bulk cP)).sum+(sp.map (Ty.bulk cP)).sum+1≤1048576:=hb;omega
  have h:es.length≤(es.map (Ty.bulk cP)).sum:=sP cP (fun _=>BE (bb _)) es;refine⟨by simp only[iK,bU];omega,fun s hs=>?_⟩;simp only[iK,List.mem_map]at hs;obtain⟨y,hy,rfl⟩:=hs;have hyb:=yb hy;obtain⟨l,s,⟨⟩⟩:=y;have hyw:=hw.2.1 _ hy;obtain⟨w1,w2,_⟩:=hyw;obtain⟨a1,a2⟩:=TZ w1;have hb2:(Ty.sl gE).bulk l+((Ty.sl fc).bulk s+0)+1≤(es.map (Ty.bulk cP)).sum:=hyb;have hl:=PO s;exact⟨⟨a1,fun z hz=>(a2 z hz).1⟩,by simp only[td];omega⟩
end Ps
set_option linter.defProp false
namespace Ps
set_option linter.unusedSimpArgs false
set_option linter.unusedVariables false
open Go Go.Proofs
set_option maxRecDepth 100000
def aAw{S0 S:St}{sz bytes:Nat}(hg:aN S0 S)(new:List PV)(hb:new.length*bytes≤140737488355328) :
  ∃v' S',dF sz bytes S .emp new=some (v',S')∧aN S0 S'∧S'.objs=S.objs∧((new=[]∧v'=.emp)∨∃tip,v'=.sl tip new [])∧∃ts,S'=⟨S.objs,S.tips++ts⟩:=by
 cases new with
 |nil=>exact⟨.emp,S,rfl,hg,rfl,.inl ⟨rfl,rfl⟩,[],by simp⟩
 |cons a r=>
  refine⟨.sl (some (S.tips.length,(a::r).length)) (a::r) [],⟨S.objs,S.tips++[((a::r).length,sz)]⟩,?_,hg.arr _,rfl,.inr ⟨_,rfl⟩,_,rfl⟩;unfold dF;simp only[pK,bp,if_false];rw[if_pos hb];rfl
def oO(x:PV)(s:bf):Prop:=∃t1 sv,x=.agg [.sl t1 (s.1.map ac) [],sv]∧((s.2=[]∧sv=.emp)∨∃t2,sv=.sl t2 (s.2.map bB) [])
def tr(y:PV)(s:bf):Prop:=iT y.frz s∧y.frz.free=true∧y.frz.frz=y.frz∧y.frz.cells.length=2
def oO.sol{x:PV}{s:bf}(h:oO x s)(objs:List (List PV))(n0 k:Nat):∃y,sol objs n0 (k+2) x=some y∧tr y s:=by
 obtain⟨t1,sv,rfl,h⟩:=h;rcases h with⟨h0,rfl⟩|⟨t2,rfl⟩
 ·refine⟨.agg [.sl t1 (s.1.map ac) [],.sl none [] []],?_,?_⟩
  ·have e1:Ps.sol objs n0 (k+1) (.sl t1 (s.1.map ac) [])=some (.sl t1 (s.1.map ac) []):=nP (by simp[PV.free,PV.freeL,kD]);have e2:Ps.sol objs n0 (k+1) .emp=some (.sl none [] []):=rfl;rw[Ps.sol,if_neg (by simp[PV.free,PV.freeL])];simp only[cT,e1,e2]
  ·have e:(PV.agg [.sl t1 (s.1.map ac) [],.sl none [] []]).frz=.agg [.sl none (s.1.map ac) [],.sl none [] []]:=by
    simp only[PV.frz,PV.frzL,jY]
   unfold tr;rw[e];refine⟨⟨_,_,rfl,ic (nh _) (kD _) (jY _),?_⟩,by simp[PV.free,PV.freeL,kD],by simp[PV.frz,PV.frzL,jY],rfl⟩;rw[h0];exact ic (by simp) rfl rfl
 ·refine⟨.agg [.sl t1 (s.1.map ac) [],.sl t2 (s.2.map bB) []],nP (by simp[PV.free,PV.freeL,kD,nj]),?_⟩
  have e:(PV.agg [.sl t1 (s.1.map ac) [],.sl t2 (s.2.map bB) []]).frz=.agg [.sl none (s.1.map ac) [],.sl none (s.2.map bB) []]:=by
   simp only[PV.frz,PV.frzL,jY,mH]
  unfold tr;rw[e];exact⟨⟨_,_,rfl,ic (nh _) (kD _) (jY _),ic (BV _) (nj _) (mH _)⟩,by simp[PV.free,PV.freeL,kD,nj],by simp[PV.frz,PV.frzL,jY,mH],rfl⟩
theorem QP(objs:List (List PV))(n0 k:Nat):∀(qs:List PV) (l:List bf),qs.length=l.length→(∀(i:Nat) (h:i<l.length) (h':i<qs.length),oO qs[i] l[i]) →
  ∃ys,cT (sol objs n0 (k+2)) qs=some ys∧ys.length=l.length∧∀(i:Nat) (h:i<l.length) (h':i<ys.length),tr ys[i] l[i]
 | [],[],_,_=>⟨[],rfl,rfl,fun i h=>by simp at h⟩
 | [],_::_,h,_=>by simp at h
 |_::_,[],h,_=>by simp at h
 |q::qs,s::l,hl,hq=>by
  obtain⟨y,e1,e2⟩:=(hq 0 (by simp) (by simp)).sol objs n0 k
  obtain⟨ys,f1,f2,f3⟩:=QP objs n0 k qs l (by simpa using hl) (fun i h h'=>by
   have:=hq (i+1) (by simp;omega) (by simp;omega);simpa using this)
  have e1:sol objs n0 (k+2) q=some y:=e1;refine⟨y::ys,by simp only[cT,e1,f1],by simp[f2],fun i h h'=>?_⟩
  cases i with
  |zero=>exact e2
  |succ i=>simpa using f3 i (by simpa using h) (by simpa using h')
def aAx:T.fn 460=some (.code kK):=rfl
def aAy{l:List bf}{v:PV}(hv:eK v l)(hl:l.length≤4000000000)(hb:∀s∈l,s.1.length≤4000000000∧s.2.length≤4000000000)(S:St):∃v',aM T 460 [v] S=some (v',S)∧eK v' l:=by
 obtain⟨hvl,hget⟩:=hv.get
 have main:∀Q:Fr→St→Prop,(∀fr S' v' qs,ad S 2 S' v' qs→qs.length=l.length→(∀(i:Nat) (h:i<l.length) (h':i<qs.length),oO qs[i] l[i])→fr 2=v'→Q fr S') →
   Ok (aE T [.code kK.body] (bg [v]) S) Q:=by
  intro Q hQ;simp -implicitDefEqProofs [kK];refine db l.length (fun i fr S'=>fr 0=v∧fr 4=.int .i64 (i:Int)∧∃qs,ad S 2 S' (fr 3) qs∧qs.length=i∧∀(j:Nat) (h:j<l.length) (h':j<qs.length),oO qs[j] l[j]) ?_ ?_ 0 (by omega) _ _ ⟨by simp,by simp,[],by simpa using oS 2 (aN.refl S),rfl,fun j h h'=>by simp at h'⟩
  ·rintro i fr S' hi ⟨h0,h4,qs,ha,hq,hqs⟩ k;obtain⟨lv,sv,hg,hlv,hsv⟩:=hget i hi;obtain⟨b1,b2⟩:=hb _ (cr hi);have hw:IntKind.i64.wrap ((i:Int)+1)=((i+1:Nat):Int):=by rw[au]<;>omega
   have hii:(i:Int)<(l.length:Int):=by omega
   obtain⟨o1,o2⟩:=hlv.one;obtain⟨p1,p2⟩:=hsv.one;have hn:=rD (S0:=S') 2 [] (aN.refl S');have hn:ad S' 2 ⟨S'.objs,S'.tips++[(0,2)]⟩ (.sl (some (S'.tips.length,0)) [] []) []:=hn;have hap1:=fun S=>hlv.appd S;obtain⟨lv',S1,a1,a2,a3⟩:=hn.app (bytes:=32) (l[i].1.map ac) (by simp;omega);rw[nX]at a2
   have hlv':∃t1,lv'=.sl t1 (l[i].1.map ac) []:=by
    cases hll:l[i].1.map ac with
    |nil=>
     rw[hll]at a1;simp only[dF,List.isEmpty_nil,if_true,aw,bo]at a1
     exact⟨_,a1.1.symm⟩
    |cons x r=>
     rw[hll]at a2;rcases a2.acc with⟨_,e⟩|⟨id,_,e,_⟩
     ·cases e
     ·exact⟨_,e⟩
   obtain⟨t1,rfl⟩:=hlv';have hap2:=fun S=>hsv.appd S;obtain⟨sv',S2,c1,c2,c3,c4,ts,c5⟩:=aAw (sz:=2) (bytes:=16) a2.grows (l[i].2.map bB) (by simp;omega)
   have hone:sv'.one=true∧sv'.cells=[sv']:=by
    rcases c4 with⟨_,rfl⟩|⟨tip,rfl⟩<;>exact⟨rfl,rfl⟩
   obtain⟨q1,q2⟩:=hone;have ha2:ad S 2 S2 (fr 3) qs:=ha.more c2;obtain⟨v',S3,d1,d2,d3⟩:=ha2.push (bytes:=48) (.agg [.sl t1 (l[i].1.map ac) [],sv']) (by omega)
   have hown:oO (.agg [.sl t1 (l[i].1.map ac) [],sv']) l[i]:=⟨t1,sv',rfl,by
    rcases c4 with⟨e,h⟩|⟨tip,h⟩
    ·exact .inl ⟨by simpa using e,h⟩
    ·exact .inr ⟨tip,h⟩⟩
   have hnil:PV.nils.cells=[.nils]:=rfl;clear c4 c5 hn;generalize l[i].1.map ac=labs at *;generalize l[i].2.map bB=sms at *;rw[aV];simp -implicitDefEqProofs [h0,h4,hvl,hi,hii,hg,bM,aH,hnil,o1,o2,p1,p2,q1,q2,cA,cc,dQ,hap1,hap2,a1,c1,aW,ft,bK,d1];refine k _ _ ?_;refine⟨by simp[h0],by simp[hw],qs++[.agg [.sl t1 labs [],sv']],by simpa using d2,by simp[hq],fun j h h'=>?_⟩;simp only[aZ,bE,cO]at h';by_cases hj:j<qs.length
   ·rw[List.getElem_append_left hj];exact hqs j h hj
   ·have:j=i:=by omega
    subst this;rw[List.getElem_append_right (by omega)];simpa[hq]using hown
  ·rintro fr S' ⟨h0,h4,qs,ha,hq,hqs⟩;rw[aV];simp -implicitDefEqProofs [h0,h4,hvl];exact hQ _ _ _ qs ha hq hqs (by simp)
 obtain⟨r,S',h1,h2,h3⟩:=gt (R:=fun r S'=>S'=S∧eK r l) aAx rfl (main _ (fun fr S' v' qs ha hq hqs f2=>by
  refine⟨[v'],by simp[kK,bh,fN,f2],?_⟩;obtain⟨ys,y1,y2,y3⟩:=QP S'.objs S.objs.length 37 qs l hq hqs;rcases ha.acc with⟨e1,e2⟩|⟨id,_,e1,_⟩
  ·subst e1 e2;have hl0:l=[]:=vW hq.symm;subst hl0;have e:ak false S S' .nils=(.nils,S):=eR ha.grows rfl;exact⟨congrArg Prod.snd e,by rw[show(ak kK.raw S S' (bu [PV.nils])).1=_ from congrArg Prod.fst e];exact⟨[],ib 2,rfl,fun i h=>by simp at h⟩⟩
  ·have hs:sol S'.objs S.objs.length eF v'=some (.sl (some (id,qs.length)) ys []):=by
    rw[e1];show sol S'.objs S.objs.length (39+1) _=_;rw[sol];split
    ·rename_i hf;have hfq:PV.freeL qs=true:=by simpa[PV.free,PV.freeL]using hf
     have:=tf (objs:=S'.objs) (n0:=S.objs.length) (k:=38) hfq;have e:qs=ys:=gD (this.symm.trans y1);rw[e]
    ·simp only[cT];rw[show cT (sol S'.objs S.objs.length 39) qs=some ys from y1]
   have e:ak false S S' v'=(.sl none (ys.map PV.frz) [],S):=by
    rw[ml ha.grows hs];simp[PV.frz,PV.frzL,fH]
   have hcv:eK (.sl none (ys.map PV.frz) []) l:=by
    refine⟨ys.map PV.frz,ic (fun e he=>?_) (gT fun x hx=>?_) ?_,by simp[y2],fun i h h'=>?_⟩
    ·obtain⟨x,hx,rfl⟩:=List.mem_map.1 he;obtain⟨i,hi,rfl⟩:=eC hx;exact(y3 i (by omega) hi).2.2.2
    ·obtain⟨y,hy,rfl⟩:=List.mem_map.1 hx;obtain⟨i,hi,rfl⟩:=eC hy;exact(y3 i (by omega) hi).2.1
    ·rw[fH,sI];refine ly fun x hx=>?_;obtain⟨i,hi,rfl⟩:=eC hx;exact(y3 i (by omega) hi).2.2.1
    ·have hi:i<ys.length:=by omega
     rw[List.getElem_map];exact(y3 i h hi).1
   exact⟨congrArg Prod.snd e,by rw[show(ak kK.raw S S' (bu [v'])).1=_ from congrArg Prod.fst e];exact hcv⟩))
 subst h2;exact⟨r,h1,h3⟩
end Ps
