/- A function that defers a call: how it is walked. -/
import Derived.Test.YtpjmpaidcidjgaaGreatDoorAbbKt
import Derived.Test.YtpjmpaidcidjgaaGreatDoorBSKt
import Derived.Test.YtpjmpaidcidjgaaGreatDoorCWKt
set_option linter.defProp false
namespace Ps
set_option linter.unusedSimpArgs false
set_option linter.unusedVariables false
open Go Go.Proofs
structure fy(ls:List (List ad)):Prop where
 len:ls.length≤256
 set:∀l∈ls,l.length≤8
 word:∀l∈ls,∀x∈l,x.1.length≤64∧x.2.1.length≤64
def TI{ls:List (List ad)}:∀(n i:Nat),ls.length-i=n→fv ls i=0→∀j (h:j<ls.length),i≤j→gQ ls j h=0:=by
 intro n
 induction n with
 |zero=>intro i hi _ j h hij;omega
 |succ n ih=>
  intro i hi h j hj hij;have hil:i<ls.length:=by omega
  rw[fv,dif_pos hil]at h;split at h
  ·rename_i hz;by_cases e:i=j
   ·subst e;exact hz
   ·exact ih (i+1) (by omega) h j hj (by omega)
  ·rename_i hz;exact absurd h hz
def uY{ls:List (List ad)}(h:ey ls=0):fy ls:=by
 unfold ey at h;split at h
 ·cases h
 rename_i hl;have hs:=TI ls.length 0 (by omega) h
 have hr:∀l∈ls,qr l:=fun l hm=>by
  obtain⟨i,hi,rfl⟩:=iF hm;have:=hs i hi (bh _);unfold gQ at this;refine Qk.1 ?_;by_cases e:fX ls[i]=0
  ·exact e
  ·rw[if_pos e]at this;exact this
 refine⟨by omega,fun l hm=>(hr l hm).1,fun l hm x hx=>?_⟩;obtain⟨h1,h2,h3⟩:=(hr l hm).2.1 x hx;refine⟨?_,h3⟩
 cases hx1:x.1 with
 |nil=>simp
 |cons a r=>
  rw[hx1]at h1;simp only[kL,aI,decide_eq_true_eq]at h1;have:=h1.2;simp only[bE];omega
def TK{ls:List (List ad)}(h:fy ls):(eU ls).length≤4096:=by
 have h1:∀(l:List ad),(l.flatMap fun x=>[x.1,x.2.1]).length=2*l.length:=by
  intro l
  induction l with
  |nil=>rfl
  |cons a l ih=>simp only[dB,ak,bE,cP,ih];omega
 have h2:∀(m:List (List ad)),(∀l∈m,l.length≤8)→(eU m).length≤16*m.length:=by
  intro m
  induction m with
  |nil=>intro _;simp[eU]
  |cons a m ih=>
   intro hm;have:=ih fun l hl=>hm l (by simp[hl]);have ha:=hm a (by simp);unfold eU at this ⊢;rw[dB,ak,h1];simp only[bE];omega
 have:=h2 ls h.set;have:=h.len;omega
theorem AY:∀l:List Wd,(fb l).length≤l.length
 | []=>by simp[fb]
 |a::l=>by
  have:=AY l;simp only[fb];split<;>simp only[bE]<;>omega
def nC{ls:List (List ad)}(h:fy ls):(bp ls).length≤4096:=by
 unfold bp;rw[zR];exact Nat.le_trans (AY _) (TK h)
def uZ{ls:List (List ad)}(h:fy ls){w:Wd}(hw:w∈eU ls):w.length≤64:=by
 unfold eU at hw;obtain⟨l,hl,hw⟩:=List.mem_flatMap.1 hw;obtain⟨x,hx,hw⟩:=List.mem_flatMap.1 hw;obtain⟨h1,h2⟩:=h.word l hl x hx;simp only[cY,zV,or_false]at hw;rcases hw with rfl|rfl
 ·exact h1
 ·exact h2
def rG(ls:List (List ad))(s:Wd):fx ls s≤(bp ls).length:=List.idxOf_le_length
def AZ{ls:List (List ad)}{pl:List (Wd×Nat)}(hp:∀(i:Nat)(h:i<(bp ls).length),fa (bp ls)[i] pl=some i){s:Wd}(hs:s∈eU ls):fa s pl=some (fx ls s):=by
 have hm:=rE.2 hs;have hi:(bp ls).idxOf s<(bp ls).length:=List.idxOf_lt_length_of_mem hm;have:=hp _ hi
 rwa [List.getElem_idxOf hi]at this
def TL{L:List Wd}(hL:L.length≤4096)(hw:∀w∈L,w.length≤64){S0:St}{O:List (List PV)}{p:List UInt8}(hp:p.length≤1000000){K:List Kt}{Q:Fr→St→Prop}{fr:Fr}{S:St}{xv mv:PV}
  (h26:fr 26=gv L)(h27:fr 27=.int .i64 (L.length:Int))(h28:fr 28=.int .i64 0)(h0:fr 0=xv)(h4:fr 4=mv)(ha:bI S0 1 S (fr 5) (aJ p))(hO:S.objs=O)
  (kk:∀fr' S',fr' 0=xv→fr' 4=mv→bI S0 1 S' (fr' 5) (aJ (p++L.flatMap fL))→S'.objs=O→Ok (aF T K fr' S') Q) :
  Ok (aF T (.lp wO::.blk 0::K) fr S) Q:=by
 have hlen:∀l:List Wd,(∀w∈l,w.length≤64)→(l.flatMap fL).length≤73*l.length:=by
  intro l
  induction l with
  |nil=>intro _;simp
  |cons a l ih=>
   intro h;have h1:=ih fun w hw=>h w (by simp[hw]);have h2:=h a (by simp);have h3:=ec (n:=a.length) (by omega);simp only[dB,ak,bE,fL];omega
 refine jp L.length (fun i fr' S'=>fr' 26=gv L∧fr' 27=.int .i64 (L.length:Int)∧fr' 28=.int .i64 (i:Int)∧fr' 0=xv∧fr' 4=mv∧bI S0 1 S' (fr' 5) (aJ (p++(L.take i).flatMap fL))∧S'.objs=O) ?_ ?_ 0 (bh _) _ _
  ⟨h26,h27,by simpa using h28,h0,h4,by simpa using ha,hO⟩
 ·rintro i fr' S' hi ⟨g26,g27,g28,g0,g4,ga,gO⟩ k;have hg:=(rF L).reads.get i (by simpa using hi) .i64;have hgx:(L.map PV.str)[i]'(by simpa using hi)=.str L[i]:=by simp
  rw[hgx]at hg;have hcs:(PV.str L[i]).cells=[.str L[i]]:=rfl;rw[hcs]at hg;have hwi:=hw L[i] (fK hi);have hpl:=hlen (L.take i) fun w h=>hw w (jV h);rw[iG]at hpl;obtain⟨v',S2,c1,c2,c3⟩:=RI (ga.isSl (kN _)) (t:=L[i]) (by omega) (by rw[ak];omega) (S0:=S0) (S:=S') ga.grows;have hw1:IntKind.i64.wrap ((i:Int)+1)=((i+1:Nat):Int):=by rw[bT]<;>omega
  have hlt:(i:Int)<(L.length:Int):=by omega
  rw[bH];simp -implicitDefEqProofs [g26,g27,g28,g0,g4,hg,hlt,hi,dD,c1];refine k _ _ ⟨by simp[g26],by simp[g27],by simp[hw1],by simp[g0],by simp[g4],?_,by rw[c3,gO]⟩
  have e:p++(L.take (i+1)).flatMap fL=p++(L.take i).flatMap fL++fL L[i]:=by
   rw[List.take_succ_eq_append_getElem hi,lQ,eh];simp
  rw[e];simpa using c2
 ·rintro fr' S' ⟨g26,g27,g28,g0,g4,ga,gO⟩;rw[il]at ga;rw[bH];simp -implicitDefEqProofs [g27,g28];exact kk _ _ (by simp[g0]) (by simp[g4]) (by simpa using ga) gO
def iz(ls:List (List ad))(x:ad):List UInt8:=bU (fx ls x.1)++bU (fx ls x.2.1)
def TM{ls:List (List ad)}(h:fy ls)(x:ad):(iz ls x).length≤18:=by
 have h1:=ec (n:=fx ls x.1) (by have:=rG ls x.1;have:=nC h;omega);have h2:=ec (n:=fx ls x.2.1) (by have:=rG ls x.2.1;have:=nC h;omega);simp only[iz,ak];omega
theorem ua{ls:List (List ad)}(h:fy ls):∀l:List ad,(l.flatMap (iz ls)).length≤18*l.length
 | []=>by simp
 |a::l=>by
  have h1:=ua h l;have h2:=TM h a;simp only[dB,ak,bE];omega
def TN{ls:List (List ad)}(hx:fy ls){l:List ad}(hl:l.length≤8)(hlw:∀x∈l,x.1∈eU ls∧x.2.1∈eU ls){lv:PV}(hv:bM 2 lv (l.map az)){S0:St}{B:List (List PV)}{t:Nat}{pl:List (Wd×Nat)}(ht:B[t]?=some (bV pl))
  (hpl:∀(i:Nat)(h:i<(bp ls).length),fa (bp ls)[i] pl=some i){p:List UInt8}(hp:p.length≤1000000){K:List Kt}{Q:Fr→St→Prop}{fr:Fr}{S:St}{xv o1 o2 o3:PV}
  (h65:fr 65=lv)(h66:fr 66=.int .i64 (l.length:Int))(h67:fr 67=.int .i64 0)(h0:fr 0=xv)(h4:fr 4=.map t)(h52:fr 52=o1)(h53:fr 53=o2)(h54:fr 54=o3)(ha:bI S0 1 S (fr 5) (aJ p))(hO:∃ys,S.objs=B++ys)
  (kk:∀fr' S',fr' 0=xv→fr' 4=.map t→fr' 52=o1→fr' 53=o2→fr' 54=o3→bI S0 1 S' (fr' 5) (aJ (p++l.flatMap (iz ls)))→(∃ys,S'.objs=B++ys)→Ok (aF T K fr' S') Q) :
  Ok (aF T (.lp wR::.blk 4::K) fr S) Q:=by
 refine jp l.length (fun i fr' S'=>fr' 65=lv∧fr' 66=.int .i64 (l.length:Int)∧fr' 67=.int .i64 (i:Int)∧fr' 0=xv∧fr' 4=.map t∧fr' 52=o1∧fr' 53=o2∧fr' 54=o3∧bI S0 1 S' (fr' 5) (aJ (p++(l.take i).flatMap (iz ls)))∧∃ys,S'.objs=B++ys) ?_ ?_ 0 (bh _) _ _
  ⟨h65,h66,by simpa using h67,h0,h4,h52,h53,h54,by simpa using ha,hO⟩
 ·rintro i fr' S' hi ⟨g65,g66,g67,g0,g4,g52,g53,g54,ga,ys,gO⟩ k;have hg:=hv.reads.get i (by simpa using hi) .i64;have hgx:(l.map az)[i]'(by simpa using hi)=az l[i]:=by simp
  rw[hgx,oW]at hg;obtain⟨w1,w2⟩:=hlw l[i] (fK hi);have hk1:=AZ hpl w1;have hk2:=AZ hpl w2;have hb1:=rG ls l[i].1;have hb2:=rG ls l[i].2.1;have htl:=nC hx;have hu1:=ec (n:=fx ls l[i].1) (by omega);have hpre:=ua hx (l.take i);rw[iG]at hpre;have ga1:=ga.objs [[.str l[i].1,.str l[i].2.1]];obtain⟨v1,S1,c1,c2,c3⟩:=lV (ga1.isSl (kN _)) (n:=fx ls l[i].1) (by omega) (by rw[ak];omega) (S0:=S0) (S:=⟨S'.objs++[[.str l[i].1,.str l[i].2.1]],S'.tips⟩) ga1.grows;obtain⟨v2,S2,d1,d2,d3⟩:=lV (c2.isSl (kN _)) (n:=fx ls l[i].2.1) (by omega) (by rw[ak,ak];omega) (S0:=S0) (S:=S1) c2.grows;have hw1:IntKind.i64.wrap ((i:Int)+1)=((i+1:Nat):Int):=by rw[bT]<;>omega
  have hlt:(i:Int)<(l.length:Int):=by omega
  have ht1:(S'.objs++[[PV.str l[i].1,.str l[i].2.1]])[t]?=some (bV pl):=by
   rw[gO,eh,aw (aL.1 ht).1];exact ht
  have ht2:S1.objs[t]?=some (bV pl):=by rw[c3];exact ht1
  have hn1:(S'.objs++[[PV.str l[i].1,.str l[i].2.1]])[S'.objs.length]?=some [.str l[i].1,.str l[i].2.1]:=by simp
  have hn2:S1.objs[S'.objs.length]?=some [.str l[i].1,.str l[i].2.1]:=by rw[c3];exact hn1
  rw[bH];simp -implicitDefEqProofs [g65,g66,g67,g0,g4,hg,hlt,hi,dD,lY,aH,cR,bB,dG (S:=S1) hn2,ht1,ht2,AQ,hk1,hk2,eB,gz,c1,d1];refine k _ _ ⟨by simp[g65],by simp[g66],by simp[hw1],by simp[g0],by simp[g4],by simp[g52],by simp[g53],by simp[g54],?_,ys++[[.str l[i].1,.str l[i].2.1]],by rw[d3,c3];simp[gO]⟩
  have e:p++(l.take (i+1)).flatMap (iz ls)=p++(l.take i).flatMap (iz ls)++bU (fx ls l[i].1)++bU (fx ls l[i].2.1):=by
   rw[List.take_succ_eq_append_getElem hi,lQ];simp[iz]
  rw[e];simpa using d2
 ·rintro fr' S' ⟨g65,g66,g67,g0,g4,g52,g53,g54,ga,gO⟩;rw[il]at ga;rw[bH];simp -implicitDefEqProofs [g66,g67];exact kk _ _ (by simp[g0]) (by simp[g4]) (by simp[g52]) (by simp[g53]) (by simp[g54]) (by simpa using ga) gO
def je(ls:List (List ad))(l:List ad):List UInt8:=bU l.length++l.flatMap (iz ls)
def ub(ls:List (List ad)):df ls=bU (bp ls).length++(bp ls).flatMap fL++bU ls.length++ls.flatMap (je ls):=rfl
theorem uc{ls:List (List ad)}(h:fy ls):∀m:List (List ad),(∀l∈m,l.length≤8)→(m.flatMap (je ls)).length≤153*m.length
 | [],_=>by simp
 |a::m,hm=>by
  have h1:=uc h m fun l hl=>hm l (by simp[hl]);have ha:=hm a (by simp);have h2:=ua h a;have h3:=ec (n:=a.length) (by omega);simp only[dB,ak,bE,je];omega
def TO{ls:List (List ad)}(hx:fy ls){sv:PV}{qs:List PV}(hs:cn 1 sv qs)(hql:qs.length=ls.length)(hqs:∀(j:Nat)(h:j<ls.length)(h':j<qs.length),bM 2 qs[j] (ls[j].map az)){S0:St}{B:List (List PV)}{t:Nat}{pl:List (Wd×Nat)}(ht:B[t]?=some (bV pl))
  (hpl:∀(i:Nat)(h:i<(bp ls).length),fa (bp ls)[i] pl=some i){p:List UInt8}(hp:p.length≤900000){K:List Kt}{Q:Fr→St→Prop}{fr:Fr}{S:St}{xv:PV}
  (h52:fr 52=sv)(h53:fr 53=.int .i64 (ls.length:Int))(h54:fr 54=.int .i64 0)(h0:fr 0=xv)(h4:fr 4=.map t)(ha:bI S0 1 S (fr 5) (aJ p))(hO:∃ys,S.objs=B++ys)
  (kk:∀fr' S',bI S0 1 S' (fr' 5) (aJ (p++ls.flatMap (je ls)))→Ok (aF T K fr' S') Q) :
  Ok (aF T (.lp wS::.blk 2::K) fr S) Q:=by
 refine jp ls.length (fun i fr' S'=>fr' 52=sv∧fr' 53=.int .i64 (ls.length:Int)∧fr' 54=.int .i64 (i:Int)∧fr' 0=xv∧fr' 4=.map t∧bI S0 1 S' (fr' 5) (aJ (p++(ls.take i).flatMap (je ls)))∧∃ys,S'.objs=B++ys) ?_ ?_ 0 (bh _) _ _
  ⟨h52,h53,by simpa using h54,h0,h4,by simpa using ha,hO⟩
 ·rintro i fr' S' hi ⟨g52,g53,g54,g0,g4,ga,gO⟩ k;have hiq:i<qs.length:=by omega
  have hsl:=hqs i hi hiq;obtain⟨o1,o2⟩:=hsl.one;have hg:=hs.get i hiq .i64;rw[o2]at hg;have hln:=hsl.len;rw[dN]at hln;have hl8:=hx.set ls[i] (fK hi);have hpre:=uc hx (ls.take i) fun l hl=>hx.set l (jV hl);rw[iG]at hpre;have h256:=hx.len;have hu1:=ec (n:=ls[i].length) (by omega);obtain⟨v1,S1,c1,c2,c3⟩:=lV (ga.isSl (kN _)) (n:=ls[i].length) (by omega) (by rw[ak];omega) (S0:=S0) (S:=S') ga.grows;have hw1:IntKind.i64.wrap ((i:Int)+1)=((i+1:Nat):Int):=by rw[bT]<;>omega
  have hlt:(i:Int)<(ls.length:Int):=by omega
  rw[bH];simp -implicitDefEqProofs [g52,g53,g54,g0,g4,hg,hlt,hi,dD,hln,c1];refine TN (xv:=xv) (o1:=sv) (o2:=.int .i64 (ls.length:Int)) (o3:=.int .i64 (i:Int)) hx hl8 (fun x hxm=>?_) hsl ht hpl (p:=p++(ls.take i).flatMap (je ls)++bU ls[i].length) (by simp only[ak];omega) (by simp) (by simp) (by simp) (by simp[g0]) (by simp[g4]) (by simp[g52]) (by simp[g53]) (by simp[g54]) (by simpa using c2) (by rw[c3];exact gO) (fun fr2 S2 e0 e4 e52 e53 e54 ea eO=>?_)
  ·have hm:ls[i]∈ls:=fK hi;constructor<;>(unfold eU;exact List.mem_flatMap.2 ⟨_,hm,List.mem_flatMap.2 ⟨x,hxm,by simp⟩⟩)
  ·simp -implicitDefEqProofs [e54];refine k _ _ ⟨by simp[e52],by simp[e53],by simp[hw1],by simp[e0],by simp[e4],?_,eO⟩
   have e:p++(ls.take (i+1)).flatMap (je ls)=p++(ls.take i).flatMap (je ls)++bU ls[i].length++ls[i].flatMap (iz ls):=by
    rw[List.take_succ_eq_append_getElem hi,lQ];simp[je]
   rw[e];simpa using ea
 ·rintro fr' S' ⟨g52,g53,g54,g0,g4,ga,gO⟩;rw[il]at ga;rw[bH];simp -implicitDefEqProofs [g53,g54];exact kk _ _ (by simpa using ga)
def TP(ls:List (List ad)):aJ (df ls)≠[]:=by
 intro e;have h1:(df ls).length=0:=by rw[←bo,e];rfl
 rw[ub]at h1
 have:0<(bU ls.length).length:=by
  rw[bU];split<;>simp
 simp only[ak]at h1;omega
def Aa{S:St}{p:PV}{ls:List (List ad)}(h:iw S p ls)(hx:fy ls):ca tie 134 [p] S (fun r=>r=.ret (.sl none (aJ (df ls)) []) S):=by
 have htx:=TH h (fun w hw=>by have:=uZ hx hw;unfold maxLen;omega) (by have:=nC hx;omega);obtain⟨ox,om,n0,sv,qs,kv,rfl,hne,hox,hom,hown,hql,hqs,hnd,hk⟩:=h.at_;have hlx:=(aL.1 hox).1;have htl:=nC hx
 have hrd:=hown.reads (fun e he=>by
  obtain⟨j,hj,rfl⟩:=iF he;rw[(hqs j (by omega) hj).one.2];rfl)
 have hslen:=hrd.len;rw[hql]at hslen;refine tK tieOk UD UE rfl ?_;show W tie uo.body _ _ _;unfold uo;simp only;refine iE tieOk rfl ?_;simp -implicitDefEqProofs [wK];refine aAu tieOk rfl ?_;simp -implicitDefEqProofs [wL,fH,isNil,fe];refine lN (qS (qQ tieOk ?_));unfold Ax;refine qT rfl ?_;simp -implicitDefEqProofs;refine Pp (by simp[jR]) htx ?_ (fun v S' hr=>by obtain⟨_,_,_,e,_⟩:=hr;cases e);rintro v S' ⟨t,xs,pl,e,ht,hpl⟩;cases e;refine⟨fun q hq=>(by cases hq),?_⟩;refine aAt rfl ?_;simp -implicitDefEqProofs;have h256:=hx.len;have hg1:aV S ⟨S.objs++xs,S.tips⟩:=⟨xs,[],by simp⟩;have htn:=(rF (bp ls)).len;rw[dN]at htn;have hu0:=ec (n:=(bp ls).length) (by omega);have hu1:=ec (n:=ls.length) (by omega);have hwl:∀w∈bp ls,w.length≤64:=fun w hw=>uZ hx (rE.1 hw);obtain⟨v1,S1,c1,c2,c3⟩:=lV (s:=[]) (v:=.nils) (.inl ⟨rfl,rfl⟩) (n:=(bp ls).length) (by omega) (by simp) (S0:=S) (S:=⟨S.objs++xs,S.tips⟩) hg1
 refine iE tieOk rfl ?_;simp -implicitDefEqProofs [jg,wM,htn,c1];refine iE tieOk rfl ?_;simp -implicitDefEqProofs [jg,wN,htn];refine TL (O:=S.objs++xs) (S0:=S) (p:=bU (bp ls).length) (xv:=.ptr ox 0) (mv:=.map t) htl hwl (by omega) (by simp) (by simp) (by simp) (by simp[bX]) (by simp) (by simpa using c2) c3 (fun fr2 S2 e0 e4 e5 eO=>?_);simp -implicitDefEqProofs
 have hlen0:((bp ls).flatMap fL).length≤73*(bp ls).length:=by
  have:∀l:List Wd,(∀w∈l,w.length≤64)→(l.flatMap fL).length≤73*l.length:=by
   intro l
   induction l with
   |nil=>intro _;simp
   |cons a l ih=>
    intro h;have h1:=ih fun w hw=>h w (by simp[hw]);have h2:=h a (by simp);have h3:=ec (n:=a.length) (by omega);simp only[dB,ak,bE,fL];omega
  exact this _ hwl
 have hox2:S2.objs[ox]?=some [sv,.map om]:=by rw[eO,aw hlx];exact hox
 obtain⟨v3,S3,d1,d2,d3⟩:=lV (e5.isSl (kN _)) (n:=ls.length) (by omega) (by rw[ak];omega) (S0:=S) (S:=S2) e5.grows;refine iE tieOk rfl ?_;simp -implicitDefEqProofs [jg,wP,e0,e4,dG hox2,dD,hslen,d1];have hox3:S3.objs[ox]?=some [sv,.map om]:=by rw[d3];exact hox2
 refine iE tieOk rfl ?_;simp -implicitDefEqProofs [jg,wQ,e0,e4,dG hox3,dD,hslen];refine TO (B:=S.objs++xs) (S0:=S) (xv:=.ptr ox 0) (p:=bU (bp ls).length++(bp ls).flatMap fL++bU ls.length) hx hrd hql hqs ht hpl (by simp only[ak];omega) (by simp) (by simp) (by simp) (by simp[e0]) (by simp[e4]) (by simpa using d2) ⟨[],by rw[d3,eO];simp⟩ (fun fr4 S4 ea=>?_);simp -implicitDefEqProofs;refine Pq tieOk rfl ?_;simp -implicitDefEqProofs [jg,wT];rw[←ub]at ea;have hf:=ea.fin (ju _ (fun _=>rfl) _) (jv _ (fun _=>rfl) _)
 have hsf:js (fr4 5) (aJ (df ls))=.sl none (aJ (df ls)) []:=by
  rcases ea.acc with⟨_,e⟩|⟨id,_,e,_⟩
  ·exact absurd e (TP ls)
  ·rw[e];rfl
 rw[hf,hsf];exact⟨rfl,rfl⟩
end Ps
set_option linter.defProp false
namespace Ps
open Go
def sI(T:aM):List aN→Fr→St→Fr→St→Prop
 | [],fr,S,fr1,S1=>fr1=fr∧S1=S
 |p::ps,fr,S,fr1,S1=>∃fr2 S2,(∀K,aF T (.code p::K) fr S=aF T K fr2 S2)∧sI T ps fr2 S2 fr1 S1
def Wz{T:aM}{p:aN}{fr fr1:Fr}{S S1:St}(h:∀K,aF T (.code p::K) fr S=aF T K fr1 S1):∃j,aU T (ax T j) j p fr S=some (.norm,fr1,S1):=by
 have dec:∀(K:List Kt) (r:Fr×St),aF T K fr1 S1=some r→∃j e fr3 S3,aU T (ax T j) j p fr S=some (e,fr3,S3)∧pT T j K r e fr3 S3:=by
  intro K r hr;obtain⟨j,hj⟩:=iR.1 ((h K).trans hr);obtain⟨e,fr3,S3,h4,h5⟩:=ry T j p K fr S r hj;exact⟨j,e,fr3,S3,h4,h5⟩
 obtain⟨j,e,fr3,S3,h2,h3⟩:=dec [] (fr1,S1) xC;refine⟨j,?_⟩
 cases e with
 |norm=>
  obtain⟨i,hi,h4⟩:=h3
  cases i with
  |zero=>simp[aW]at h4
  |succ i=>
   simp only[aW,ae,ba]at h4;obtain⟨rfl,rfl⟩:=h4
   exact h2
 |exit m=>obtain⟨K',i,q1,_⟩:=h3;simp[fB]at q1
 |ret=>
  exfalso;have e1:(fr1,S1)=(fr3,S3):=h3;obtain⟨u,hu⟩:=Vk (fr1 0)
  have hk:aF T [.ops [⟨some 0,.mov (.cst u),none⟩]] fr1 S1=some (upd fr1 0 u,S1):=by
   rw[xE];simp only[bf,aH,aQ,ev,ck,tz,aO];rw[xD,xC]
  obtain⟨j',e',fr3',S3',k2,k3⟩:=dec _ _ hk;have b1:=iQ (fR T (tq j j')) (tq j j') h2;have b2:=iQ (fR T (tr j j')) (tr j j') k2;rw[b1]at b2;cases b2;have e2:(upd fr1 0 u,S1)=(fr3,S3):=k3;rw[←e1]at e2;have e3:=congrFun (congrArg Prod.fst e2) 0;simp[upd]at e3;exact hu e3
def Nf{T:aM}{p:aN}{fr fr3:Fr}{S S3:St}(hg:aF T [.code p] fr S=some (fr3,S3)):∃(j:Nat) (e:Ex),aU T (ax T j) j p fr S=some (e,fr3,S3)∧(e=.norm∨e=.ret):=by
 obtain⟨j3,h3⟩:=iR.1 hg;obtain⟨e,fr6,S6,h4,h5⟩:=ry T j3 p [] fr S _ h3
 cases e with
 |norm=>
  obtain⟨i,hi,h7⟩:=h5
  cases i with
  |zero=>simp[aW]at h7
  |succ i=>
   simp only[aW,ae,ba]at h7;obtain⟨rfl,rfl⟩:=h7
   exact⟨j3,_,h4,.inl rfl⟩
 |exit m=>obtain⟨K',i,q1,_⟩:=h5;simp[fB]at q1
 |ret=>
  have:(fr3,S3)=(fr6,S6):=h5;cases this;exact⟨j3,_,h4,.inr rfl⟩
end Ps
