/- errors.As at a target that points to a block.broken: Go's own text of errors.As and errors.as, walked (after the guide's worked example); the told law of it. -/
import Derived.Test.YtpjmpaidcidjgaaGreatDoorAbbKw
import Derived.Test.YtpjmpaidcidjgaaGreatDoorBSKw
import Derived.Test.YtpjmpaidcidjgaaGreatDoorChecked
import Derived.Test.YtpjmpaidcidjgaaGreatDoorSimVKw
import Derived.WalkKit
import Derived.LaidEql
set_option linter.defProp false
namespace Ps
set_option linter.unusedSimpArgs false
set_option linter.unusedVariables false
open Go Go.Proofs
structure fC(ls:List (List aT)):Prop where
 len:ls.length≤256
 set:∀l∈ls,l.length≤8
 word:∀l∈ls,∀x∈l,x.1.length≤64∧x.2.1.length≤64
def WA{ls:List (List aT)}:∀(n i:Nat),ls.length-i=n→ez ls i=0→∀j (h:j<ls.length),i≤j→eV ls j h=0:=by
 intro n
 induction n with
 |zero=>intro i hi _ j h hij;omega
 |succ n ih=>
  intro i hi h j hj hij;have hil:i<ls.length:=by omega
  rw[ez,dif_pos hil]at h;split at h
  ·rename_i hz;by_cases e:i=j
   ·subst e;exact hz
   ·exact ih (i+1) (by omega) h j hj (by omega)
  ·rename_i hz;exact absurd h hz
def sj{ls:List (List aT)}(h:df ls=0):fC ls:=by
 unfold df at h;split at h
 ·cases h
 rename_i hl;have hs:=WA ls.length 0 (by omega) h
 have hr:∀l∈ls,sQ l:=fun l hm=>by
  obtain⟨i,hi,rfl⟩:=eC hm;have:=hs i hi (bb _);unfold eV at this;refine Tl.1 ?_;by_cases e:dn ls[i]=0
  ·exact e
  ·rw[if_pos e]at this;exact this
 refine⟨by omega,fun l hm=>(hr l hm).1,fun l hm x hx=>?_⟩;obtain⟨h1,h2,h3⟩:=(hr l hm).2.1 x hx;refine⟨?_,h3⟩
 cases hx1:x.1 with
 |nil=>simp
 |cons a r=>
  rw[hx1]at h1;simp only[jX,aJ,decide_eq_true_eq]at h1;have:=h1.2;simp only[bE];omega
def WB{ls:List (List aT)}(h:fC ls):(dp ls).length≤4096:=by
 have h1:∀(l:List aT),(l.flatMap fun x=>[x.1,x.2.1]).length=2*l.length:=by
  intro l
  induction l with
  |nil=>rfl
  |cons a l ih=>simp only[dC,aZ,bE,cO,ih];omega
 have h2:∀(m:List (List aT)),(∀l∈m,l.length≤8)→(dp m).length≤16*m.length:=by
  intro m
  induction m with
  |nil=>intro _;simp[dp]
  |cons a m ih=>
   intro hm;have:=ih fun l hl=>hm l (by simp[hl]);have ha:=hm a (by simp);unfold dp at this ⊢;rw[dC,aZ,h1];simp only[bE];omega
 have:=h2 ls h.set;have:=h.len;omega
theorem CI:∀l:List Wd,(gK l).length≤l.length
 | []=>by simp[gK]
 |a::l=>by
  have:=CI l;simp only[gK];split<;>simp only[bE]<;>omega
def kp{ls:List (List aT)}(h:fC ls):(bY ls).length≤4096:=by
 unfold bY;rw[Ay];exact Nat.le_trans (CI _) (WB h)
def sk{ls:List (List aT)}(h:fC ls){w:Wd}(hw:w∈dp ls):w.length≤64:=by
 unfold dp at hw;obtain⟨l,hl,hw⟩:=List.mem_flatMap.1 hw;obtain⟨x,hx,hw⟩:=List.mem_flatMap.1 hw;obtain⟨h1,h2⟩:=h.word l hl x hx;simp only[cQ,pO,or_false]at hw;rcases hw with rfl|rfl
 ·exact h1
 ·exact h2
def np(ls:List (List aT))(s:Wd):fB ls s≤(bY ls).length:=List.idxOf_le_length
def CJ{ls:List (List aT)}{pl:List (Wd×Nat)}(hp:∀(i:Nat)(h:i<(bY ls).length),gJ (bY ls)[i] pl=some i){s:Wd}(hs:s∈dp ls):gJ s pl=some (fB ls s):=by
 have hm:=mL.2 hs;have hi:(bY ls).idxOf s<(bY ls).length:=List.idxOf_lt_length_of_mem hm;have:=hp _ hi
 rwa [List.getElem_idxOf hi]at this
def WC{L:List Wd}(hL:L.length≤4096)(hw:∀w∈L,w.length≤64){S0:St}{O:List (List PV)}{p:List UInt8}(hp:p.length≤1000000){K:List Kt}{Q:Fr→St→Prop}{fr:Fr}{S:St}{xv mv:PV}
  (h26:fr 26=iV L)(h27:fr 27=.int .i64 (L.length:Int))(h28:fr 28=.int .i64 0)(h0:fr 0=xv)(h4:fr 4=mv)(ha:ad S0 1 S (fr 5) (aI p))(hO:S.objs=O)
  (kk:∀fr' S',fr' 0=xv→fr' 4=mv→ad S0 1 S' (fr' 5) (aI (p++L.flatMap dD))→S'.objs=O→Ok (aE T K fr' S') Q) :
  Ok (aE T (.lp xU::.blk 0::K) fr S) Q:=by
 have hlen:∀l:List Wd,(∀w∈l,w.length≤64)→(l.flatMap dD).length≤73*l.length:=by
  intro l
  induction l with
  |nil=>intro _;simp
  |cons a l ih=>
   intro h;have h1:=ih fun w hw=>h w (by simp[hw]);have h2:=h a (by simp);have h3:=dK (n:=a.length) (by omega);simp only[dC,aZ,bE,dD];omega
 refine db L.length (fun i fr' S'=>fr' 26=iV L∧fr' 27=.int .i64 (L.length:Int)∧fr' 28=.int .i64 (i:Int)∧fr' 0=xv∧fr' 4=mv∧ad S0 1 S' (fr' 5) (aI (p++(L.take i).flatMap dD))∧S'.objs=O) ?_ ?_ 0 (bb _) _ _
  ⟨h26,h27,by simpa using h28,h0,h4,by simpa using ha,hO⟩
 ·rintro i fr' S' hi ⟨g26,g27,g28,g0,g4,ga,gO⟩ k;have hg:=(si L).reads.get i (by simpa using hi) .i64;have hgx:(L.map PV.str)[i]'(by simpa using hi)=.str L[i]:=by simp
  rw[hgx]at hg;have hcs:(PV.str L[i]).cells=[.str L[i]]:=rfl;rw[hcs]at hg;have hwi:=hw L[i] (cr hi);have hpl:=hlen (L.take i) fun w h=>hw w (fm h);rw[fS]at hpl;obtain⟨v',S2,c1,c2,c3⟩:=UN (ga.isSl (iE _)) (t:=L[i]) (by omega) (by rw[aZ];omega) (S0:=S0) (S:=S') ga.grows;have hw1:IntKind.i64.wrap ((i:Int)+1)=((i+1:Nat):Int):=by rw[au]<;>omega
  have hlt:(i:Int)<(L.length:Int):=by omega
  rw[aV];simp -implicitDefEqProofs [g26,g27,g28,g0,g4,hg,hlt,hi,bM,c1];refine k _ _ ⟨by simp[g26],by simp[g27],by simp[hw1],by simp[g0],by simp[g4],?_,by rw[c3,gO]⟩
  have e:p++(L.take (i+1)).flatMap dD=p++(L.take i).flatMap dD++dD L[i]:=by
   rw[List.take_succ_eq_append_getElem hi,List.flatMap_append,List.append_assoc];simp
  rw[e];simpa using c2
 ·rintro fr' S' ⟨g26,g27,g28,g0,g4,ga,gO⟩;rw[List.take_length]at ga;rw[aV];simp -implicitDefEqProofs [g27,g28];exact kk _ _ (by simp[g0]) (by simp[g4]) (by simpa using ga) gO
def fq(ls:List (List aT))(x:aT):List UInt8:=bI (fB ls x.1)++bI (fB ls x.2.1)
def WD{ls:List (List aT)}(h:fC ls)(x:aT):(fq ls x).length≤18:=by
 have h1:=dK (n:=fB ls x.1) (by have:=np ls x.1;have:=kp h;omega);have h2:=dK (n:=fB ls x.2.1) (by have:=np ls x.2.1;have:=kp h;omega);simp only[fq,aZ];omega
theorem sm{ls:List (List aT)}(h:fC ls):∀l:List aT,(l.flatMap (fq ls)).length≤18*l.length
 | []=>by simp
 |a::l=>by
  have h1:=sm h l;have h2:=WD h a;simp only[dC,aZ,bE];omega
def WE{ls:List (List aT)}(hx:fC ls){l:List aT}(hl:l.length≤8)(hlw:∀x∈l,x.1∈dp ls∧x.2.1∈dp ls){lv:PV}(hv:am 2 lv (l.map ac)){S0:St}{B:List (List PV)}{t:Nat}{pl:List (Wd×Nat)}(ht:B[t]?=some (bk pl))
  (hpl:∀(i:Nat)(h:i<(bY ls).length),gJ (bY ls)[i] pl=some i){p:List UInt8}(hp:p.length≤1000000){K:List Kt}{Q:Fr→St→Prop}{fr:Fr}{S:St}{xv o1 o2 o3:PV}
  (h65:fr 65=lv)(h66:fr 66=.int .i64 (l.length:Int))(h67:fr 67=.int .i64 0)(h0:fr 0=xv)(h4:fr 4=.map t)(h52:fr 52=o1)(h53:fr 53=o2)(h54:fr 54=o3)(ha:ad S0 1 S (fr 5) (aI p))(hO:∃ys,S.objs=B++ys)
  (kk:∀fr' S',fr' 0=xv→fr' 4=.map t→fr' 52=o1→fr' 53=o2→fr' 54=o3→ad S0 1 S' (fr' 5) (aI (p++l.flatMap (fq ls)))→(∃ys,S'.objs=B++ys)→Ok (aE T K fr' S') Q) :
  Ok (aE T (.lp xX::.blk 4::K) fr S) Q:=by
 refine db l.length (fun i fr' S'=>fr' 65=lv∧fr' 66=.int .i64 (l.length:Int)∧fr' 67=.int .i64 (i:Int)∧fr' 0=xv∧fr' 4=.map t∧fr' 52=o1∧fr' 53=o2∧fr' 54=o3∧ad S0 1 S' (fr' 5) (aI (p++(l.take i).flatMap (fq ls)))∧∃ys,S'.objs=B++ys) ?_ ?_ 0 (bb _) _ _
  ⟨h65,h66,by simpa using h67,h0,h4,h52,h53,h54,by simpa using ha,hO⟩
 ·rintro i fr' S' hi ⟨g65,g66,g67,g0,g4,g52,g53,g54,ga,ys,gO⟩ k;have hg:=hv.reads.get i (by simpa using hi) .i64;have hgx:(l.map ac)[i]'(by simpa using hi)=ac l[i]:=by simp
  rw[hgx,ki]at hg;obtain⟨w1,w2⟩:=hlw l[i] (cr hi);have hk1:=CJ hpl w1;have hk2:=CJ hpl w2;have hb1:=np ls l[i].1;have hb2:=np ls l[i].2.1;have htl:=kp hx;have hu1:=dK (n:=fB ls l[i].1) (by omega);have hpre:=sm hx (l.take i);rw[fS]at hpre;have ga1:=ga.objs [[.str l[i].1,.str l[i].2.1]];obtain⟨v1,S1,c1,c2,c3⟩:=mG (ga1.isSl (iE _)) (n:=fB ls l[i].1) (by omega) (by rw[aZ];omega) (S0:=S0) (S:=⟨S'.objs++[[.str l[i].1,.str l[i].2.1]],S'.tips⟩) ga1.grows;obtain⟨v2,S2,d1,d2,d3⟩:=mG (c2.isSl (iE _)) (n:=fB ls l[i].2.1) (by omega) (by rw[aZ,aZ];omega) (S0:=S0) (S:=S1) c2.grows;have hw1:IntKind.i64.wrap ((i:Int)+1)=((i+1:Nat):Int):=by rw[au]<;>omega
  have hlt:(i:Int)<(l.length:Int):=by omega
  have ht1:(S'.objs++[[PV.str l[i].1,.str l[i].2.1]])[t]?=some (bk pl):=by
   rw[gO,List.append_assoc,bF (aO.1 ht).1];exact ht
  have ht2:S1.objs[t]?=some (bk pl):=by rw[c3];exact ht1
  have hn1:(S'.objs++[[PV.str l[i].1,.str l[i].2.1]])[S'.objs.length]?=some [.str l[i].1,.str l[i].2.1]:=by simp
  have hn2:S1.objs[S'.objs.length]?=some [.str l[i].1,.str l[i].2.1]:=by rw[c3];exact hn1
  rw[aV];simp -implicitDefEqProofs [g65,g66,g67,g0,g4,hg,hlt,hi,bM,fo,aH,cj,bK,dM (S:=S1) hn2,ht1,ht2,Bz,hk1,hk2,eY,iZ,c1,d1];refine k _ _ ⟨by simp[g65],by simp[g66],by simp[hw1],by simp[g0],by simp[g4],by simp[g52],by simp[g53],by simp[g54],?_,ys++[[.str l[i].1,.str l[i].2.1]],by rw[d3,c3];simp[gO]⟩
  have e:p++(l.take (i+1)).flatMap (fq ls)=p++(l.take i).flatMap (fq ls)++bI (fB ls l[i].1)++bI (fB ls l[i].2.1):=by
   rw[List.take_succ_eq_append_getElem hi,List.flatMap_append];simp[fq]
  rw[e];simpa using d2
 ·rintro fr' S' ⟨g65,g66,g67,g0,g4,g52,g53,g54,ga,gO⟩;rw[List.take_length]at ga;rw[aV];simp -implicitDefEqProofs [g66,g67];exact kk _ _ (by simp[g0]) (by simp[g4]) (by simp[g52]) (by simp[g53]) (by simp[g54]) (by simpa using ga) gO
def gL(ls:List (List aT))(l:List aT):List UInt8:=bI l.length++l.flatMap (fq ls)
def sn(ls:List (List aT)):dP ls=bI (bY ls).length++(bY ls).flatMap dD++bI ls.length++ls.flatMap (gL ls):=rfl
theorem so{ls:List (List aT)}(h:fC ls):∀m:List (List aT),(∀l∈m,l.length≤8)→(m.flatMap (gL ls)).length≤153*m.length
 | [],_=>by simp
 |a::m,hm=>by
  have h1:=so h m fun l hl=>hm l (by simp[hl]);have ha:=hm a (by simp);have h2:=sm h a;have h3:=dK (n:=a.length) (by omega);simp only[dC,aZ,bE,gL];omega
def WG{ls:List (List aT)}(hx:fC ls){sv:PV}{qs:List PV}(hs:bW 1 sv qs)(hql:qs.length=ls.length)(hqs:∀(j:Nat)(h:j<ls.length)(h':j<qs.length),am 2 qs[j] (ls[j].map ac)){S0:St}{B:List (List PV)}{t:Nat}{pl:List (Wd×Nat)}(ht:B[t]?=some (bk pl))
  (hpl:∀(i:Nat)(h:i<(bY ls).length),gJ (bY ls)[i] pl=some i){p:List UInt8}(hp:p.length≤900000){K:List Kt}{Q:Fr→St→Prop}{fr:Fr}{S:St}{xv:PV}
  (h52:fr 52=sv)(h53:fr 53=.int .i64 (ls.length:Int))(h54:fr 54=.int .i64 0)(h0:fr 0=xv)(h4:fr 4=.map t)(ha:ad S0 1 S (fr 5) (aI p))(hO:∃ys,S.objs=B++ys)
  (kk:∀fr' S',ad S0 1 S' (fr' 5) (aI (p++ls.flatMap (gL ls)))→Ok (aE T K fr' S') Q) :
  Ok (aE T (.lp xY::.blk 2::K) fr S) Q:=by
 refine db ls.length (fun i fr' S'=>fr' 52=sv∧fr' 53=.int .i64 (ls.length:Int)∧fr' 54=.int .i64 (i:Int)∧fr' 0=xv∧fr' 4=.map t∧ad S0 1 S' (fr' 5) (aI (p++(ls.take i).flatMap (gL ls)))∧∃ys,S'.objs=B++ys) ?_ ?_ 0 (bb _) _ _
  ⟨h52,h53,by simpa using h54,h0,h4,by simpa using ha,hO⟩
 ·rintro i fr' S' hi ⟨g52,g53,g54,g0,g4,ga,gO⟩ k;have hiq:i<qs.length:=by omega
  have hsl:=hqs i hi hiq;obtain⟨o1,o2⟩:=hsl.one;have hg:=hs.get i hiq .i64;rw[o2]at hg;have hln:=hsl.len;rw[bU]at hln;have hl8:=hx.set ls[i] (cr hi);have hpre:=so hx (ls.take i) fun l hl=>hx.set l (fm hl);rw[fS]at hpre;have h256:=hx.len;have hu1:=dK (n:=ls[i].length) (by omega);obtain⟨v1,S1,c1,c2,c3⟩:=mG (ga.isSl (iE _)) (n:=ls[i].length) (by omega) (by rw[aZ];omega) (S0:=S0) (S:=S') ga.grows;have hw1:IntKind.i64.wrap ((i:Int)+1)=((i+1:Nat):Int):=by rw[au]<;>omega
  have hlt:(i:Int)<(ls.length:Int):=by omega
  rw[aV];simp -implicitDefEqProofs [g52,g53,g54,g0,g4,hg,hlt,hi,bM,hln,c1];refine WE (xv:=xv) (o1:=sv) (o2:=.int .i64 (ls.length:Int)) (o3:=.int .i64 (i:Int)) hx hl8 (fun x hxm=>?_) hsl ht hpl (p:=p++(ls.take i).flatMap (gL ls)++bI ls[i].length) (by simp only[aZ];omega) (by simp) (by simp) (by simp) (by simp[g0]) (by simp[g4]) (by simp[g52]) (by simp[g53]) (by simp[g54]) (by simpa using c2) (by rw[c3];exact gO) (fun fr2 S2 e0 e4 e52 e53 e54 ea eO=>?_)
  ·have hm:ls[i]∈ls:=cr hi;constructor<;>(unfold dp;exact List.mem_flatMap.2 ⟨_,hm,List.mem_flatMap.2 ⟨x,hxm,by simp⟩⟩)
  ·simp -implicitDefEqProofs [e54];refine k _ _ ⟨by simp[e52],by simp[e53],by simp[hw1],by simp[e0],by simp[e4],?_,eO⟩
   have e:p++(ls.take (i+1)).flatMap (gL ls)=p++(ls.take i).flatMap (gL ls)++bI ls[i].length++ls[i].flatMap (fq ls):=by
    rw[List.take_succ_eq_append_getElem hi,List.flatMap_append];simp[gL]
   rw[e];simpa using ea
 ·rintro fr' S' ⟨g52,g53,g54,g0,g4,ga,gO⟩;rw[List.take_length]at ga;rw[aV];simp -implicitDefEqProofs [g53,g54];exact kk _ _ (by simpa using ga)
def WH(ls:List (List aT)):aI (dP ls)≠[]:=by
 intro e;have h1:(dP ls).length=0:=by rw[←bN,e];rfl
 rw[sn]at h1
 have:0<(bI ls.length).length:=by
  rw[bI];split<;>simp
 simp only[aZ]at h1;omega
def CK{S:St}{p:PV}{ls:List (List aT)}(h:gc S p ls)(hx:fC ls):dv tie 134 [p] S (fun r=>r=.ret (.sl none (aI (dP ls)) []) S):=by
 have htx:=Vz h (fun w hw=>by have:=sk hx hw;unfold maxLen;omega) (by have:=kp hx;omega);obtain⟨ox,om,n0,sv,qs,kv,rfl,hne,hox,hom,hown,hql,hqs,hnd,hk⟩:=h.at_;have hlx:=(aO.1 hox).1;have htl:=kp hx
 have hrd:=hown.reads (fun e he=>by
  obtain⟨j,hj,rfl⟩:=eC he;rw[(hqs j (by omega) hj).one.2];rfl)
 have hslen:=hrd.len;rw[hql]at hslen;refine vF tieOk Wt Wu rfl ?_;show W tie wV.body _ _ _;unfold wV;simp only;refine gy tieOk rfl ?_;simp -implicitDefEqProofs [xP];refine aDE tieOk rfl ?_;simp -implicitDefEqProofs [xQ,gV,isNil,gN];refine nT (AU (AR tieOk ?_));unfold Ci;refine AY rfl ?_;simp -implicitDefEqProofs;refine aDD (by simp[jL]) htx ?_ (fun v S' hr=>by obtain⟨_,_,_,e,_⟩:=hr;cases e);rintro v S' ⟨t,xs,pl,e,ht,hpl⟩;cases e;refine⟨fun q hq=>(by cases hq),?_⟩;refine Sf rfl ?_;simp -implicitDefEqProofs;have h256:=hx.len;have hg1:aN S ⟨S.objs++xs,S.tips⟩:=⟨xs,[],by simp⟩;have htn:=(si (bY ls)).len;rw[bU]at htn;have hu0:=dK (n:=(bY ls).length) (by omega);have hu1:=dK (n:=ls.length) (by omega);have hwl:∀w∈bY ls,w.length≤64:=fun w hw=>sk hx (mL.1 hw);obtain⟨v1,S1,c1,c2,c3⟩:=mG (s:=[]) (v:=.nils) (.inl ⟨rfl,rfl⟩) (n:=(bY ls).length) (by omega) (by simp) (S0:=S) (S:=⟨S.objs++xs,S.tips⟩) hg1
 refine gy tieOk rfl ?_;simp -implicitDefEqProofs [kG,xR,htn,c1];refine gy tieOk rfl ?_;simp -implicitDefEqProofs [kG,xS,htn];refine WC (O:=S.objs++xs) (S0:=S) (p:=bI (bY ls).length) (xv:=.ptr ox 0) (mv:=.map t) htl hwl (by omega) (by simp) (by simp) (by simp) (by simp[bg]) (by simp) (by simpa using c2) c3 (fun fr2 S2 e0 e4 e5 eO=>?_);simp -implicitDefEqProofs
 have hlen0:((bY ls).flatMap dD).length≤73*(bY ls).length:=by
  have:∀l:List Wd,(∀w∈l,w.length≤64)→(l.flatMap dD).length≤73*l.length:=by
   intro l
   induction l with
   |nil=>intro _;simp
   |cons a l ih=>
    intro h;have h1:=ih fun w hw=>h w (by simp[hw]);have h2:=h a (by simp);have h3:=dK (n:=a.length) (by omega);simp only[dC,aZ,bE,dD];omega
  exact this _ hwl
 have hox2:S2.objs[ox]?=some [sv,.map om]:=by rw[eO,bF hlx];exact hox
 obtain⟨v3,S3,d1,d2,d3⟩:=mG (e5.isSl (iE _)) (n:=ls.length) (by omega) (by rw[aZ];omega) (S0:=S) (S:=S2) e5.grows;refine gy tieOk rfl ?_;simp -implicitDefEqProofs [kG,xV,e0,e4,dM hox2,bM,hslen,d1];have hox3:S3.objs[ox]?=some [sv,.map om]:=by rw[d3];exact hox2
 refine gy tieOk rfl ?_;simp -implicitDefEqProofs [kG,xW,e0,e4,dM hox3,bM,hslen];refine WG (B:=S.objs++xs) (S0:=S) (xv:=.ptr ox 0) (p:=bI (bY ls).length++(bY ls).flatMap dD++bI ls.length) hx hrd hql hqs ht hpl (by simp only[aZ];omega) (by simp) (by simp) (by simp) (by simp[e0]) (by simp[e4]) (by simpa using d2) ⟨[],by rw[d3,eO];simp⟩ (fun fr4 S4 ea=>?_);simp -implicitDefEqProofs;refine Sg tieOk rfl ?_;simp -implicitDefEqProofs [kG,xZ];rw[←sn]at ea;have hf:=ea.fin (gv _ (fun _=>rfl) _) (gS _ (fun _=>rfl) _)
 have hsf:gu (fr4 5) (aI (dP ls))=.sl none (aI (dP ls)) []:=by
  rcases ea.acc with⟨_,e⟩|⟨id,_,e,_⟩
  ·exact absurd e (WH ls)
  ·rw[e];rfl
 rw[hf,hsf];exact⟨rfl,rfl⟩
end Ps
namespace Go.Proofs
open Go.RowKit Go.Extern

theorem Tz.valueOf77 (t : Addr) (w : World) : (ReflectliteValue.unpack (.iface 77 (.pointer (some t)))).run Tryz.prog w
  = .ok (.agg #[.pointer (some ⟨1, 77, none⟩), .pointer (some ⟨w.heap.size, 0, none⟩), .int .u64 150]) (w.alloc (.cells #[.pointer (some t)] 77)) := by kernel_rfl
theorem Tz.type77 (a : Addr) (w : World) : (ReflectliteValue.methodAny (ReflectliteValue.valueError "reflectlite.Value.Type" 0) (fun t _ _ _ => ReflectliteType.toType t) #[.agg #[.pointer (some ⟨1, 77, none⟩), .pointer (some a), .int .u64 150]]).run Tryz.prog w
  = .ok (.iface 169 (.agg #[.pointer (some ⟨1, 77, none⟩)])) w := by kernel_rfl
theorem Tz.methodKind (h : Value) (w : World) : (Go.method 350 169 (.agg #[h]) "Kind").run Tryz.prog w = .ok (154, h) w := by kernel_rfl
theorem Tz.kind77 (w : World) : ((ReflectliteType.abiMethod fun t => (fun a : Nat => Value.int IntKind.u8 (a : Int)) <$> Rtype.kind t) #[.pointer (some ⟨1, 77, none⟩)]).run Tryz.prog w = .ok (.int .u8 22) w := by kernel_rfl
theorem Tz.kind72 (w : World) : ((ReflectliteType.abiMethod fun t => (fun a : Nat => Value.int IntKind.u8 (a : Int)) <$> Rtype.kind t) #[.pointer (some ⟨1, 72, none⟩)]).run Tryz.prog w = .ok (.int .u8 25) w := by kernel_rfl

theorem Tz.rlm (z : Sem Value) (f : TypeId → Addr → Nat → Nat → Sem Value) (v : Value) :
  ReflectliteValue.method z f #[v] = (do match ← ReflectliteValue.parts v with | none => z | some (t, a, fl) => f t a fl (fl % 32)) := rfl
theorem Tz.parts77 (a : Addr) (w : World) : (ReflectliteValue.parts (.agg #[.pointer (some ⟨1, 77, none⟩), .pointer (some a), .int .u64 150])).run Tryz.prog w = .ok (some (77, a, 150)) w := by kernel_rfl
theorem Tz.isNil77 (a p : Addr) (W : World) (ha : W.cell? a = some (.pointer (some p))) :
  (ReflectliteValue.method (ReflectliteValue.valueError "reflectlite.Value.IsNil" 0) ReflectliteValue.isNil #[.agg #[.pointer (some ⟨1, 77, none⟩), .pointer (some a), .int .u64 150]]).run Tryz.prog W = .ok (.bool false) W := by
 rw [Tz.rlm];simp only [Sem.run_bind, Tz.parts77, Result.andThen];simp [ReflectliteValue.isNil, loadVar, isAgg, underlying, Tryz.underlying77, ha, Result.andThen]

theorem Tz.methodElem (h : Value) (w : World) : (Go.method 350 169 (.agg #[h]) "Elem").run Tryz.prog w = .ok (164, .agg #[h]) w := by kernel_rfl
theorem Tz.methodImplements (h : Value) (w : World) : (Go.method 350 169 (.agg #[h]) "Implements").run Tryz.prog w = .ok (165, .agg #[h]) w := by kernel_rfl
theorem Tz.methodAssignableTo (h : Value) (w : World) : (Go.method 350 169 (.agg #[h]) "AssignableTo").run Tryz.prog w = .ok (162, .agg #[h]) w := by kernel_rfl
theorem Tz.elem77 (w : World) : (ReflectliteType.method ReflectliteType.elem #[.agg #[.pointer (some ⟨1, 77, none⟩)]]).run Tryz.prog w = .ok (.iface 169 (.agg #[.pointer (some ⟨1, 72, none⟩)])) w := by kernel_rfl
theorem Tz.implements72 (w : World) : (ReflectliteType.relation "Implements" ReflectliteType.implements_ #[.agg #[.pointer (some ⟨1, 72, none⟩)], .iface 169 (.agg #[.pointer (some ⟨1, 74, none⟩)])]).run Tryz.prog w = .ok (.bool true) w := by kernel_rfl
theorem Tz.typeOf72 (v : Value) (w : World) : (ReflectliteType.typeOf #[.iface 72 v]).run Tryz.prog w = .ok (.iface 169 (.agg #[.pointer (some ⟨1, 72, none⟩)])) w := by kernel_rfl
theorem Tz.assignable72 (w : World) : (ReflectliteType.relation "AssignableTo" ReflectliteType.assignableTo #[.agg #[.pointer (some ⟨1, 72, none⟩)], .iface 169 (.agg #[.pointer (some ⟨1, 72, none⟩)])]).run Tryz.prog w = .ok (.bool true) w := by kernel_rfl
theorem Tz.valueOf72 (n : Int) (w : World) : (ReflectliteValue.unpack (.iface 72 (.agg #[.int .i64 n]))).run Tryz.prog w
  = .ok (.agg #[.pointer (some ⟨1, 72, none⟩), .pointer (some ⟨w.heap.size, 0, none⟩), .int .u64 153]) (w.alloc (.cells #[.int .i64 n] 72)) := by kernel_rfl

theorem Tz.elemOf77 (w : World) : (Rtype.elem? 77).run Tryz.prog w = .ok (some 72) w := by kernel_rfl
theorem Tz.mk72 (p : Addr) (w : World) : (ReflectliteValue.mk 72 p ReflectliteValue.flagAddr).run Tryz.prog w = .ok (.agg #[.pointer (some ⟨1, 72, none⟩), .pointer (some p), .int .u64 409]) w := by kernel_rfl
theorem Tz.elemV77 (a p : Addr) (W : World) (ha : W.cell? a = some (.pointer (some p))) :
  (ReflectliteValue.method (ReflectliteValue.valueError "reflectlite.Value.Elem" 0) ReflectliteValue.elem #[.agg #[.pointer (some ⟨1, 77, none⟩), .pointer (some a), .int .u64 150]]).run Tryz.prog W
   = .ok (.agg #[.pointer (some ⟨1, 72, none⟩), .pointer (some p), .int .u64 409]) W := by
 rw [Tz.rlm];simp only [Sem.run_bind, Tz.parts77, Result.andThen];simp [ReflectliteValue.elem, loadVar, isAgg, underlying, Tryz.underlying77, ha, Result.andThen, Tz.elemOf77, Tz.mk72]
theorem Tz.rls (v x : Value) : ReflectliteValue.set #[v, x] = (do
  let (some (dst, a, fl), some (src, b, _)) := (← ReflectliteValue.parts v, ← ReflectliteValue.parts x)
   | unsupported (.noEntry "extern/(internal/reflectlite.Value).Set.zeroValue")
  if fl / ReflectliteValue.flagAddr % 2 == 0 then unsupported (.noEntry "extern/(internal/reflectlite.Value).Set.unaddressable")
  let val ← loadVar src b
  if ← Rtype.directlyAssignable dst src then storeVar dst a val
  else if ← Rtype.implements dst src then
   if (← Rtype.kind src) == 20 then
    match val with
    | .nilIface => unsupported (.noEntry "extern/reflectlite: a nil value of one interface type handed on as a value of another")
    | _ => storeVar dst a val
   else storeVar dst a (.iface src val)
  else panicString ("reflectlite.Set: value of type " ++ (← Rtype.spelt src) ++ " is not assignable to type " ++ (← Rtype.spelt dst))
  pure (.tuple #[])) := rfl
theorem Tz.parts72a (a : Addr) (w : World) : (ReflectliteValue.parts (.agg #[.pointer (some ⟨1, 72, none⟩), .pointer (some a), .int .u64 409])).run Tryz.prog w = .ok (some (72, a, 409)) w := by kernel_rfl
theorem Tz.parts72 (a : Addr) (w : World) : (ReflectliteValue.parts (.agg #[.pointer (some ⟨1, 72, none⟩), .pointer (some a), .int .u64 153])).run Tryz.prog w = .ok (some (72, a, 153)) w := by kernel_rfl
theorem Tz.direct72 (w : World) : (Rtype.directlyAssignable 72 72).run Tryz.prog w = .ok true w := by kernel_rfl
theorem Tz.size72 (w : World) : (sizeOf 72).run Tryz.prog w = .ok 1 w := by kernel_rfl
theorem Tz.isAgg72 (w : World) : (isAgg 72).run Tryz.prog w = .ok true w := by kernel_rfl
theorem Tz.set72 (ta b : Addr) (n : Int) (old : Value) (W : World) (hb : W.cell? b = some (.int .i64 n)) (ht : W.cell? ta = some old) (hf : W.frozen? ta = false) :
  (ReflectliteValue.set #[.agg #[.pointer (some ⟨1, 72, none⟩), .pointer (some ta), .int .u64 409], .agg #[.pointer (some ⟨1, 72, none⟩), .pointer (some b), .int .u64 153]]).run Tryz.prog W
   = .ok (.tuple #[]) (W.setCell ta (.int .i64 n)) := by
 rw [Tz.rls];simp only [Sem.run_bind, Tz.parts72a, Tz.parts72, Result.andThen]
 have hl : (loadCellsFrom b 0 1 #[]).run Tryz.prog W = .ok #[.int .i64 n] W := by
  simp [loadCellsFrom, Addr.add, hb]
 simp [ReflectliteValue.flagAddr, loadVar, Tz.isAgg72, Tz.size72, hl, Result.andThen, Tz.direct72, storeVar, Value.cells, storeCells, loadCells, Addr.add];rw [run_store Tryz.prog W ta _ _ (by rfl)];simp [ht, hf]

set_option maxHeartbeats 4000000 in
set_option maxRecDepth 20000 in
theorem Tz.as_hit (n : Int) (t : Addr) (old : Value) (w : World) (hg : w.cell? ⟨0, 0, none⟩ = some (.iface 169 (.agg #[.pointer (some ⟨1, 74, none⟩)]))) (ht0 : w.cell? t = some old) (hf0 : w.frozen? t = false) :
  Calls Tryz.prog 36 #[.iface 72 (.agg #[.int .i64 n]), .iface 77 (.pointer (some t))] w fun ev w' => ev = .returned (.bool true) ∧ w' = ((((w.alloc (.cells #[.pointer (some t)] 77)).alloc (.cells #[.pointer (some ⟨1, 77, none⟩), .pointer (some ⟨w.heap.size, 0, none⟩), .int .u64 150] 127)).alloc (.cells #[.pointer (some ⟨1, 77, none⟩), .pointer (some ⟨w.heap.size, 0, none⟩), .int .u64 150] 127)).alloc (.cells #[.int .i64 n] 72)).setCell t (.int .i64 n) := by
 have h6 := @run_callFunc_extern Tryz.prog 63 _ (fun args => ReflectliteValue.unpack (args.getD 0 (.tuple #[]))) Tryz.func63 (by kernel_rfl) (by kernel_rfl) (by kernel_rfl) (by kernel_rfl);have h7 := @run_callFunc_extern Tryz.prog 64 _ (ReflectliteValue.methodAny (ReflectliteValue.valueError "reflectlite.Value.Type" 0) (fun t _ _ _ => ReflectliteType.toType t)) Tryz.func64 (by kernel_rfl) (by kernel_rfl) (by kernel_rfl) (by kernel_rfl);have h8 := @run_callFunc_extern Tryz.prog 65 _ (ReflectliteValue.method (ReflectliteValue.valueError "reflectlite.Value.IsNil" 0) ReflectliteValue.isNil) Tryz.func65 (by kernel_rfl) (by kernel_rfl) (by kernel_rfl) (by kernel_rfl);have h27 := @run_callFunc_extern Tryz.prog 154 _ (ReflectliteType.abiMethod fun t => do pure (.int .u8 (← Rtype.kind t))) Tryz.func154 (by kernel_rfl) (by kernel_rfl) (by kernel_rfl) (by kernel_rfl)
 have h37 := @run_callFunc_extern Tryz.prog 164 _ (ReflectliteType.method ReflectliteType.elem) Tryz.func164 (by kernel_rfl) (by kernel_rfl) (by kernel_rfl) (by kernel_rfl);have h38 := @run_callFunc_extern Tryz.prog 165 _ (ReflectliteType.relation "Implements" ReflectliteType.implements_) Tryz.func165 (by kernel_rfl) (by kernel_rfl) (by kernel_rfl) (by kernel_rfl);have h10 := @run_callFunc_extern Tryz.prog 95 _ ReflectliteType.typeOf Tryz.func95 (by kernel_rfl) (by kernel_rfl) (by kernel_rfl) (by kernel_rfl);have h35 := @run_callFunc_extern Tryz.prog 162 _ (ReflectliteType.relation "AssignableTo" ReflectliteType.assignableTo) Tryz.func162 (by kernel_rfl) (by kernel_rfl) (by kernel_rfl) (by kernel_rfl)
 have h11 := @run_callFunc_extern Tryz.prog 96 _ (ReflectliteValue.method (ReflectliteValue.valueError "reflectlite.Value.Elem" 0) ReflectliteValue.elem) Tryz.func96 (by kernel_rfl) (by kernel_rfl) (by kernel_rfl) (by kernel_rfl);have h12 := @run_callFunc_extern Tryz.prog 97 _ ReflectliteValue.set Tryz.func97 (by kernel_rfl) (by kernel_rfl) (by kernel_rfl) (by kernel_rfl);have tO := Tz.typeOf72;have mA := Tz.methodAssignableTo;have a25 := Tz.assignable72;have v25 := Tz.valueOf72;have f6 := Tz.valueOf77;have f7 := Tz.type77;have mK := Tz.methodKind;have mE := Tz.methodElem;have mI := Tz.methodImplements;have k27 := Tz.kind77;have k25 := Tz.kind72;have e27 := Tz.elem77;have i25 := Tz.implements72
 have n8 := Tz.isNil77 ⟨w.heap.size, 0, none⟩ t ((w.alloc (.cells #[.pointer (some t)] 77)).alloc (.cells #[.pointer (some ⟨1, 77, none⟩), .pointer (some ⟨w.heap.size, 0, none⟩), .int .u64 150] 127)) (by simp)
 have hlt : 0 < w.heap.size := by
  rcases Nat.eq_zero_or_pos w.heap.size with h0 | h
  ·simp [World.cell?, h0] at hg
  ·exact h
 have hg2 : ((w.alloc (.cells #[.pointer (some t)] 77)).alloc (.cells #[.pointer (some ⟨1, 77, none⟩), .pointer (some ⟨w.heap.size, 0, none⟩), .int .u64 150] 127)).cell? ⟨0, 0, none⟩ = some (.iface 169 (.agg #[.pointer (some ⟨1, 74, none⟩)])) := by
  rw [World.cell?_alloc_lt _ _ ⟨0, 0, none⟩ (by simp), World.cell?_alloc_lt _ _ ⟨0, 0, none⟩ hlt]; exact hg
 have htl : t.block < w.heap.size := by
  rcases Nat.lt_or_ge t.block w.heap.size with h | h
  ·exact h
  ·simp [World.cell?, Array.getElem?_eq_none h] at ht0
 have el := Tz.elemV77 ⟨w.heap.size, 0, none⟩ t (((w.alloc (.cells #[.pointer (some t)] 77)).alloc (.cells #[.pointer (some ⟨1, 77, none⟩), .pointer (some ⟨w.heap.size, 0, none⟩), .int .u64 150] 127)).alloc (.cells #[.pointer (some ⟨1, 77, none⟩), .pointer (some ⟨w.heap.size, 0, none⟩), .int .u64 150] 127)) (by rw [World.cell?_alloc_lt _ _ ⟨w.heap.size, 0, none⟩ (by simp; omega)]; simp)
 have st := Tz.set72 t ⟨w.heap.size + 1 + 1 + 1, 0, none⟩ n old ((((w.alloc (.cells #[.pointer (some t)] 77)).alloc (.cells #[.pointer (some ⟨1, 77, none⟩), .pointer (some ⟨w.heap.size, 0, none⟩), .int .u64 150] 127)).alloc (.cells #[.pointer (some ⟨1, 77, none⟩), .pointer (some ⟨w.heap.size, 0, none⟩), .int .u64 150] 127)).alloc (.cells #[.int .i64 n] 72))
  (by rw [World.cell?_alloc_at _ _ _ _ (by simp)]; rfl)
  (by rw [World.cell?_alloc_lt _ _ t (by simp; omega), World.cell?_alloc_lt _ _ t (by simp; omega), World.cell?_alloc_lt _ _ t (by simp; omega), World.cell?_alloc_lt _ _ t htl]; exact ht0)
  (by rw [World.frozen?_alloc_old _ _ t (by simp; omega), World.frozen?_alloc_old _ _ t (by simp; omega), World.frozen?_alloc_old _ _ t (by simp; omega), World.frozen?_alloc_old _ _ t (Nat.ne_of_lt htl)]; exact hf0)
 go_enter Tryz.func36, Tryz.ntmps36
 go_wp2
 refine wp_loop_rounds 1 ?_;rw [rounds_succ]
 go_wp2
 go_ret
 exact ⟨rfl, rfl⟩
end Go.Proofs
