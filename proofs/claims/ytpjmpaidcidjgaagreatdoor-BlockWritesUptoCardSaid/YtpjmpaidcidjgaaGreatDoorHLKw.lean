/- The document's checks of sets of labels, and of a block. -/
import Derived.Test.YtpjmpaidcidjgaaGreatDoorAbbKw
import Derived.Test.YtpjmpaidcidjgaaGreatDoorHHKw
set_option linter.defProp false
namespace Ps
set_option linter.unusedSimpArgs false
set_option linter.unusedVariables false
open Go Go.Proofs
set_option maxRecDepth 100000
def dX(ls:List (List aT)):List Wd:=ls.flatMap fun l=>l.map (·.1)
def gR(ls:List (List aT)):List Wd:=ls.flatMap fun l=>l.map (·.2.1)
theorem tq{f:aT→Wd}:∀{m:List (List aT)},(∀l∈m,l.length≤8)→(m.flatMap fun l=>l.map f).length≤8*m.length
 | [],_=>by simp
 |a::m,h=>by
  have h1:=tq (f:=f) (m:=m) fun l hl=>h l (by simp[hl]);have h2:=h a (by simp);rw[dC,aZ,bU,bE];omega
def QI(ws:List Wd):(dW ws).length≤ws.length:=(QF ws).2.2
def iU.get{v:PV}{ls:List (List aT)}(hv:iU v ls):dc false v=some (.int .i64 ls.length)∧∀i (hi:i<ls.length),∃e,cC 1 v (.int .i64 (i:Int))=some (.ref [e])∧cF 2 e (ls[i].map ac):=by
 obtain⟨es,h1,h2,h3⟩:=hv;have hr:=h1.reads;refine⟨by rw[hr.len,h2],fun i hi=>⟨es[i]'(by omega),?_,h3 i hi (by omega)⟩⟩;rw[hr.get i (by omega) .i64,(h3 i hi (by omega)).one.2]
def lK{α:Type}{l:List α}{i:Nat}(hi:i<l.length):l.take (i+1)=l.take i++[l[i]]:=by
 rw[List.take_add_one,bX hi];rfl
def Zx:T.fn 139=some (.code mY):=rfl
def Zy{ls:List (List aT)}{v:PV}(h:fC ls)(hv:iU v ls)(S:St):∃v',aM T 139 [v] S=some (v',S)∧am 1 v' ((dW (dX ls)).map PV.str):=by
 obtain⟨hlen,hget⟩:=hv.get;have hl:=h.len
 have main:∀Q:Fr→St→Prop,(∀fr',am 1 (fr' 2) ((dW (dX ls)).map PV.str)→Q fr' S)→Ok (aE T [.code mY.body] (bg [v]) S) Q:=by
  intro Q hQ;simp -implicitDefEqProofs [mY];refine db ls.length (fun i fr S'=>fr 0=v∧fr 4=.int .i64 (i:Int)∧am 1 (fr 3) ((dW (dX (ls.take i))).map PV.str)∧S'=S) ?_ ?_ 0 (bb _) _ _ ⟨by simp,by simp,by simpa[dX,dW]using ib 1,rfl⟩
  ·rintro i fr S' hi ⟨h0,h4,h3,rfl⟩ kk;obtain⟨e,he,hev⟩:=hget i hi;have hii:(i:Int)<(ls.length:Int):=by omega
   have hw:IntKind.i64.wrap ((i:Int)+1)=((i+1:Nat):Int):=by rw[au]<;>omega
   have hle:=hev.reads.len;rw[bU]at hle;have hl8:=h.set _ (cr hi);have hfl:=tq (f:=(·.1)) (m:=ls.take i) (fun l hm=>h.set l (fm hm));have hti:(ls.take i).length≤256:=by rw[fS];omega
   rw[aV];simp -implicitDefEqProofs [h0,h4,hlen,hi,hii];refine db ls[i].length (fun j fr2 S2=>fr2 0=v∧fr2 4=.int .i64 (i:Int)∧fr2 5=.int .i64 (j:Int)∧am 1 (fr2 3) ((dW (dX (ls.take i)++(ls[i].take j).map (·.1))).map PV.str)∧S2=S') ?_ ?_ 0 (bb _) _ _ ⟨by simp[h0],by simp[h4],by simp,by simpa using h3,rfl⟩
   ·rintro j fr2 S2 hj ⟨g0,g4,g5,g3,rfl⟩ kk2;have hjj:(j:Int)<(ls[i].length:Int):=by omega
    have hwj:IntKind.i64.wrap ((j:Int)+1)=((j+1:Nat):Int):=by rw[au]<;>omega
    have hg:=hev.reads.get j (by simpa using hj) .i64;have hx:((ls[i].map ac)[j]'(by simpa using hj)).cells=[.str ls[i][j].1,.str ls[i][j].2.1]:=by simp[ac]
    rw[hx]at hg;have hfb:=QI (dX (ls.take i)++(ls[i].take j).map (·.1))
    have hfb2:(dX (ls.take i)++(ls[i].take j).map (·.1)).length≤1048576:=by
     simp only[aZ,bU,fS,dX]at hfl ⊢;omega
    obtain⟨v',c1,c2⟩:=QC g3 (by omega) (s:=ls[i][j].1) (S:=S2)
    have c2:am 1 v' ((dW (dX (ls.take i)++(ls[i].take (j+1)).map (·.1))).map PV.str):=by
     rw[lK hj,dS,←List.append_assoc,List.map_singleton,QE];exact c2
    rw[aV];simp -implicitDefEqProofs [g0,g4,g5,he,bM,hle,hj,hjj,hg,c1,hwj];exact kk2 _ _ ⟨by simp[g0],by simp[g4],by simp,by simpa using c2,rfl⟩
   ·rintro fr2 S2 ⟨g0,g4,g5,g3,rfl⟩
    have g3:am 1 (fr2 3) ((dW (dX (ls.take (i+1)))).map PV.str):=by
     have e:dX (ls.take (i+1))=dX (ls.take i)++(ls[i].take ls[i].length).map (·.1):=by
      rw[lK hi,List.take_length];unfold dX;rw[List.flatMap_append,List.flatMap_singleton]
     rw[e];exact g3
    rw[aV];simp -implicitDefEqProofs [g0,g4,g5,he,bM,hle,hw];exact kk _ _ ⟨by simp[g0],by simp,by simpa using g3,rfl⟩
  ·rintro fr S' ⟨h0,h4,h3,rfl⟩;rw[List.take_length]at h3;rw[aV];simp -implicitDefEqProofs [h0,h4,hlen];exact hQ _ (by simpa using h3)
 obtain⟨r,S2,e,e2,e3⟩:=gt (T:=T) Zx (args:=[v]) (S:=S) rfl (R:=fun r S2=>S2=S∧am 1 r ((dW (dX ls)).map PV.str)) (main _ (fun fr' h2=>by
  refine⟨[fr' 2],by simp[mY,bh,fN],?_⟩;have e:ak false S S (fr' 2)=(fr' 2,S):=by rw[eR (aN.refl S) h2.free,h2.frz]
  exact⟨congrArg Prod.snd e,by show am 1 (ak false S S (fr' 2)).1 _;rw[e];exact h2⟩))
 subst e2;exact⟨r,e,e3⟩
def Zz:T.fn 235=some (.code mX):=rfl
def aAa{ls:List (List aT)}{v:PV}(h:fC ls)(hv:iU v ls)(S:St):∃v',aM T 235 [v] S=some (v',S)∧am 1 v' ((dW (dX ls++gR ls)).map PV.str):=by
 obtain⟨hlen,hget⟩:=hv.get;have hl:=h.len;have hfn:=tq (f:=(·.1)) (m:=ls) h.set;obtain⟨nv,hnv,hns⟩:=Zy h hv S
 have main:∀Q:Fr→St→Prop,(∀fr',am 1 (fr' 2) ((dW (dX ls++gR ls)).map PV.str)→Q fr' S)→Ok (aE T [.code mX.body] (bg [v]) S) Q:=by
  intro Q hQ;simp -implicitDefEqProofs [mX,hnv];refine db ls.length (fun i fr S'=>fr 0=v∧fr 4=.int .i64 (i:Int)∧am 1 (fr 3) ((dW (dX ls++gR (ls.take i))).map PV.str)∧S'=S) ?_ ?_ 0 (bb _) _ _ ⟨by simp,by simp,by simpa[gR]using hns,rfl⟩
  ·rintro i fr S' hi ⟨h0,h4,h3,rfl⟩ kk;obtain⟨e,he,hev⟩:=hget i hi;have hii:(i:Int)<(ls.length:Int):=by omega
   have hw:IntKind.i64.wrap ((i:Int)+1)=((i+1:Nat):Int):=by rw[au]<;>omega
   have hle:=hev.reads.len;rw[bU]at hle;have hl8:=h.set _ (cr hi);have hfl:=tq (f:=(·.2.1)) (m:=ls.take i) (fun l hm=>h.set l (fm hm));have hti:(ls.take i).length≤256:=by rw[fS];omega
   rw[aV];simp -implicitDefEqProofs [h0,h4,hlen,hi,hii];refine db ls[i].length (fun j fr2 S2=>fr2 0=v∧fr2 4=.int .i64 (i:Int)∧fr2 5=.int .i64 (j:Int)∧am 1 (fr2 3) ((dW (dX ls++gR (ls.take i)++(ls[i].take j).map (·.2.1))).map PV.str)∧S2=S') ?_ ?_ 0 (bb _) _ _ ⟨by simp[h0],by simp[h4],by simp,by simpa using h3,rfl⟩
   ·rintro j fr2 S2 hj ⟨g0,g4,g5,g3,rfl⟩ kk2;have hjj:(j:Int)<(ls[i].length:Int):=by omega
    have hwj:IntKind.i64.wrap ((j:Int)+1)=((j+1:Nat):Int):=by rw[au]<;>omega
    have hg:=hev.reads.get j (by simpa using hj) .i64;have hx:((ls[i].map ac)[j]'(by simpa using hj)).cells=[.str ls[i][j].1,.str ls[i][j].2.1]:=by simp[ac]
    rw[hx]at hg;have hfb:=QI (dX ls++gR (ls.take i)++(ls[i].take j).map (·.2.1))
    have hfb2:(dX ls++gR (ls.take i)++(ls[i].take j).map (·.2.1)).length≤1048576:=by
     simp only[aZ,bU,fS,gR,dX]at hfl hfn ⊢;omega
    obtain⟨v',c1,c2⟩:=QC g3 (by omega) (s:=ls[i][j].2.1) (S:=S2)
    have c2:am 1 v' ((dW (dX ls++gR (ls.take i)++(ls[i].take (j+1)).map (·.2.1))).map PV.str):=by
     rw[lK hj,dS,←List.append_assoc,List.map_singleton,QE];exact c2
    rw[aV];simp -implicitDefEqProofs [g0,g4,g5,he,bM,hle,hj,hjj,hg,c1,hwj];exact kk2 _ _ ⟨by simp[g0],by simp[g4],by simp,by simpa using c2,rfl⟩
   ·rintro fr2 S2 ⟨g0,g4,g5,g3,rfl⟩
    have g3:am 1 (fr2 3) ((dW (dX ls++gR (ls.take (i+1)))).map PV.str):=by
     have e:dX ls++gR (ls.take (i+1))=dX ls++gR (ls.take i)++(ls[i].take ls[i].length).map (·.2.1):=by
      rw[lK hi,List.take_length];unfold gR;rw[List.flatMap_append,List.flatMap_singleton];simp only[List.append_assoc]
     rw[e];exact g3
    rw[aV];simp -implicitDefEqProofs [g0,g4,g5,he,bM,hle,hw];exact kk _ _ ⟨by simp[g0],by simp,by simpa using g3,rfl⟩
  ·rintro fr S' ⟨h0,h4,h3,rfl⟩;rw[List.take_length]at h3;rw[aV];simp -implicitDefEqProofs [h0,h4,hlen];exact hQ _ (by simpa using h3)
 obtain⟨r,S2,e,e2,e3⟩:=gt (T:=T) Zz (args:=[v]) (S:=S) rfl (R:=fun r S2=>S2=S∧am 1 r ((dW (dX ls++gR ls)).map PV.str)) (main _ (fun fr' h2=>by
  refine⟨[fr' 2],by simp[mX,bh,fN],?_⟩;have e:ak false S S (fr' 2)=(fr' 2,S):=by rw[eR (aN.refl S) h2.free,h2.frz]
  exact⟨congrArg Prod.snd e,by show am 1 (ak false S S (fr' 2)).1 _;rw[e];exact h2⟩))
 subst e2;exact⟨r,e,e3⟩
def aAb{ls:List (List aT)}{v:PV}(h:fC ls)(hv:iU v ls)(S:St):∃v',aM T 235 [v] S=some (v',S)∧am 1 v' ((bY ls).map PV.str):=by
 obtain⟨v',e,hs⟩:=aAa h hv S;refine⟨v',e,?_⟩
 rwa [Zu (ls:=ls) (fun k=>?_)]at hs
 simp only[dX,gR,dp,bd,List.mem_flatMap,List.mem_map,cQ,pO,or_false];constructor
 ·rintro(⟨l,hl,x,hx,rfl⟩|⟨l,hl,x,hx,rfl⟩)
  ·exact⟨l,hl,x,hx,.inl rfl⟩
  ·exact⟨l,hl,x,hx,.inr rfl⟩
 ·rintro⟨l,hl,x,hx,rfl|rfl⟩
  ·exact .inl ⟨l,hl,x,hx,rfl⟩
  ·exact .inr ⟨l,hl,x,hx,rfl⟩
end Ps
set_option linter.defProp false
namespace Ps
set_option linter.unusedSimpArgs false
set_option linter.unusedVariables false
open Go Go.Proofs
set_option maxRecDepth 100000
def ad.appd{S0 S:St}{v:PV}{es:List PV}(h:ad S0 1 S v es)(hs:∀e∈es,e.cells.length=1)(S2:St):dV S2 1 v=some es:=by
 rcases h.acc with⟨rfl,rfl⟩|⟨id,_,rfl,_⟩
 ·rfl
 ·rw[Ss,if_pos (mo (by simpa using hs))]
def mi{S0 S:St}{v:PV}{p:List UInt8}(h:ad S0 1 S v (aI p)){n:Nat}(hn:n<9223372036854775808)(hp:p.length≤100000000000) :
  ∃vu Su v' S',aM T 219 [.int .i64 (n:Int)] S=some (vu,Su)∧dV Su 1 vu=some (aI (bI n))∧dF 1 1 Su v (aI (bI n))=some (v',S')∧ad S0 1 S' v' (aI (p++bI n))∧S'.objs=S.objs:=by
 obtain⟨vu,Su,a1,a2,a3⟩:=wD hn (aN.refl S);have hu:=dK hn;obtain⟨v',S',b1,b2,b3⟩:=(h.more a2.grows).app (bytes:=1) (aI (bI n)) (by rw[bN,bN];omega);rw[←gF]at b2;exact⟨vu,Su,v',S',a1,a2.appd (iE _) Su,b1,b2,b3.trans a3⟩
def aAc{S0 S:St}{v:PV}{p:List UInt8}(h:ad S0 1 S v (aI p)){s:Wd}(hs:s.length≤67108864)(hp:p.length≤100000000000) :
  ∃vu v' S',di T 220 [.str s]=some vu∧dV S 1 vu=some (aI (dD s))∧dF 1 1 S v (aI (dD s))=some (v',S')∧ad S0 1 S' v' (aI (p++dD s))∧S'.objs=S.objs:=by
 obtain⟨vu,a1,a2⟩:=UR hs;have hu:=dK (n:=s.length) (by omega);obtain⟨v',S',b1,b2,b3⟩:=h.app (bytes:=1) (aI (dD s)) (by rw[bN,bN,dD,aZ];omega);rw[←gF]at b2;exact⟨vu,v',S',a1,a2.isl.appdS,b1,b2,b3⟩
def QJ:∀l:List Wd,(∀w∈l,w.length≤64)→(l.flatMap dD).length≤73*l.length:=by
 intro l
 induction l with
 |nil=>intro _;simp
 |cons a l ih=>
  intro h;have h1:=ih fun w hw=>h w (by simp[hw]);have h2:=h a (by simp);have h3:=dK (n:=a.length) (by omega);simp only[dC,aZ,bE,dD];omega
def aAd{L:List Wd}(hL:L.length≤4096)(hw:∀w∈L,w.length≤64){tv:PV}(htv:bW 1 tv (L.map PV.str)){S0:St}{O:List (List PV)}{p:List UInt8}(hp:p.length≤1000000){K:List Kt}{Q:Fr→St→Prop}{fr:Fr}{S:St}{xv:PV}
  (h3:fr 3=tv)(h5:fr 5=.int .i64 0)(h0:fr 0=xv)(ha:ad S0 1 S (fr 4) (aI p))(hO:S.objs=O)
  (kk:∀fr' S',fr' 0=xv→fr' 3=tv→ad S0 1 S' (fr' 4) (aI (p++L.flatMap dD))→S'.objs=O→Ok (aE T K fr' S') Q) :
  Ok (aE T (.lp yG::.blk 0::K) fr S) Q:=by
 have hlen:=htv.len;rw[bU]at hlen
 refine db L.length (fun i fr' S'=>fr' 3=tv∧fr' 5=.int .i64 (i:Int)∧fr' 0=xv∧ad S0 1 S' (fr' 4) (aI (p++(L.take i).flatMap dD))∧S'.objs=O) ?_ ?_ 0 (bb _) _ _
  ⟨h3,by simpa using h5,h0,by simpa using ha,hO⟩
 ·rintro i fr' S' hi ⟨g3,g5,g0,ga,gO⟩ k;have hg:=htv.get i (by simpa using hi) .i64;have hgx:(L.map PV.str)[i]'(by simpa using hi)=.str L[i]:=by simp
  rw[hgx]at hg;have hg:cC 1 tv (.int .i64 (i:Int))=some (.ref [.str L[i]]):=hg;have hwi:=hw L[i] (cr hi);have hpl:=QJ (L.take i) fun w h=>hw w (fm h);rw[fS]at hpl;obtain⟨vu,v',S2,c0,c1,c2,c3,c4⟩:=aAc ga (s:=L[i]) (by omega) (by rw[aZ];omega);have hw1:IntKind.i64.wrap ((i:Int)+1)=((i+1:Nat):Int):=by rw[au]<;>omega
  have hlt:(i:Int)<(L.length:Int):=by omega
  rw[aV];simp -implicitDefEqProofs [g3,g5,g0,hlen,hg,hlt,hi,bM,c0,c1,c2];refine k _ _ ⟨by simp[g3],by simp[hw1],by simp[g0],?_,by rw[c4,gO]⟩
  have e:p++(L.take (i+1)).flatMap dD=p++(L.take i).flatMap dD++dD L[i]:=by
   rw[List.take_succ_eq_append_getElem hi,List.flatMap_append,List.append_assoc];simp
  rw[e];simpa using c3
 ·rintro fr' S' ⟨g3,g5,g0,ga,gO⟩;rw[List.take_length]at ga;rw[aV];simp -implicitDefEqProofs [g3,g5,hlen];exact kk _ _ (by simp[g0]) (by simp[g3]) (by simpa using ga) gO
def aAe{ls:List (List aT)}(hx:fC ls){l:List aT}(hl:l.length≤8)(hlw:∀x∈l,x.1∈dp ls∧x.2.1∈dp ls){lv:PV}(hv:bW 2 lv (l.map ac)){tv:PV}(htv:bW 1 tv ((bY ls).map PV.str)){S0:St}{O:List (List PV)}
  {p:List UInt8}(hp:p.length≤1000000){K:List Kt}{Q:Fr→St→Prop}{fr:Fr}{S:St}{xv iv:PV}(hix:cC 1 xv iv=some (.ref [lv]))
  (h7:fr 7=.int .i64 0)(h0:fr 0=xv)(h3:fr 3=tv)(h6:fr 6=iv)(ha:ad S0 1 S (fr 4) (aI p))(hO:S.objs=O)
  (kk:∀fr' S',fr' 0=xv→fr' 3=tv→fr' 6=iv→ad S0 1 S' (fr' 4) (aI (p++l.flatMap (fq ls)))→S'.objs=O→Ok (aE T K fr' S') Q) :
  Ok (aE T (.lp yH::.blk 4::K) fr S) Q:=by
 have hlen:=hv.len;rw[bU]at hlen;have htl:=kp hx
 refine db l.length (fun i fr' S'=>fr' 7=.int .i64 (i:Int)∧fr' 0=xv∧fr' 3=tv∧fr' 6=iv∧ad S0 1 S' (fr' 4) (aI (p++(l.take i).flatMap (fq ls)))∧S'.objs=O) ?_ ?_ 0 (bb _) _ _
  ⟨by simpa using h7,h0,h3,h6,by simpa using ha,hO⟩
 ·rintro i fr' S' hi ⟨g7,g0,g3,g6,ga,gO⟩ k;have hg:=hv.get i (by simpa using hi) .i64;have hgx:(l.map ac)[i]'(by simpa using hi)=ac l[i]:=by simp
  rw[hgx,ki]at hg;obtain⟨w1,w2⟩:=hlw l[i] (cr hi);have hk1:=fun S=>QH htv (by omega) (mL.2 w1) S;have hk2:=fun S=>QH htv (by omega) (mL.2 w2) S;have hb1:=np ls l[i].1;have hb2:=np ls l[i].2.1;have hu1:=dK (n:=fB ls l[i].1) (by omega);have hpre:=sm hx (l.take i);rw[fS]at hpre;obtain⟨u1,T1,v1,S1,c0,c1,c2,c3,c4⟩:=mi ga (n:=fB ls l[i].1) (by omega) (by rw[aZ];omega);obtain⟨u2,T2,v2,S2,d0,d1,d2,d3,d4⟩:=mi c3 (n:=fB ls l[i].2.1) (by omega) (by rw[aZ,aZ];omega);unfold fB at c0 d0 c1 c2 d1 d2;have hw1:IntKind.i64.wrap ((i:Int)+1)=((i+1:Nat):Int):=by rw[au]<;>omega
  have hlt:(i:Int)<(l.length:Int):=by omega
  generalize hi1:(bY ls).idxOf l[i].1=i1 at *;generalize hi2:(bY ls).idxOf l[i].2.1=i2 at *;rw[aV];simp -implicitDefEqProofs [g7,g0,g3,g6,hix,hlen,hg,hlt,hi,bM,hk1,hk2,c0,c1,c2,d0,d1,d2];refine k _ _ ⟨by simp[hw1],by simp[g0],by simp[g3],by simp[g6],?_,by rw[d4,c4,gO]⟩
  have e:p++(l.take (i+1)).flatMap (fq ls)=p++(l.take i).flatMap (fq ls)++bI (fB ls l[i].1)++bI (fB ls l[i].2.1):=by
   rw[List.take_succ_eq_append_getElem hi,List.flatMap_append];simp[fq]
  rw[e];simpa using d3
 ·rintro fr' S' ⟨g7,g0,g3,g6,ga,gO⟩;rw[List.take_length]at ga;rw[aV];simp -implicitDefEqProofs [g7,g0,g6,hix,bM,hlen];exact kk _ _ (by simp[g0]) (by simp[g3]) (by simp[g6]) (by simpa using ga) gO
def aAf{ls:List (List aT)}(hx:fC ls){xv:PV}(hxv:iU xv ls){tv:PV}(htv:bW 1 tv ((bY ls).map PV.str)){S0:St}{O:List (List PV)}
  {p:List UInt8}(hp:p.length≤900000){K:List Kt}{Q:Fr→St→Prop}{fr:Fr}{S:St}
  (h6:fr 6=.int .i64 0)(h0:fr 0=xv)(h3:fr 3=tv)(ha:ad S0 1 S (fr 4) (aI p))(hO:S.objs=O)
  (kk:∀fr' S',ad S0 1 S' (fr' 4) (aI (p++ls.flatMap (gL ls)))→Ok (aE T K fr' S') Q) :
  Ok (aE T (.lp yI::.blk 2::K) fr S) Q:=by
 obtain⟨hlen,hget⟩:=hxv.get;have h256:=hx.len
 refine db ls.length (fun i fr' S'=>fr' 6=.int .i64 (i:Int)∧fr' 0=xv∧fr' 3=tv∧ad S0 1 S' (fr' 4) (aI (p++(ls.take i).flatMap (gL ls)))∧S'.objs=O) ?_ ?_ 0 (bb _) _ _
  ⟨by simpa using h6,h0,h3,by simpa using ha,hO⟩
 ·rintro i fr' S' hi ⟨g6,g0,g3,ga,gO⟩ k;obtain⟨lv,hg,hsl⟩:=hget i hi;have hln:=hsl.reads.len;rw[bU]at hln;have hl8:=hx.set ls[i] (cr hi);have hpre:=so hx (ls.take i) fun l hl=>hx.set l (fm hl);rw[fS]at hpre;have hu1:=dK (n:=ls[i].length) (by omega);obtain⟨u1,T1,v1,S1,c0,c1,c2,c3,c4⟩:=mi ga (n:=ls[i].length) (by omega) (by rw[aZ];omega);have hw1:IntKind.i64.wrap ((i:Int)+1)=((i+1:Nat):Int):=by rw[au]<;>omega
  have hlt:(i:Int)<(ls.length:Int):=by omega
  rw[aV];simp -implicitDefEqProofs [g6,g0,g3,hlen,hg,hlt,hi,bM,hln,c0,c1,c2];refine aAe (O:=O) hx hl8 (fun x hxm=>?_) hsl.reads htv (xv:=xv) (iv:=.int .i64 (i:Int)) (p:=p++(ls.take i).flatMap (gL ls)++bI ls[i].length) (by simp only[aZ];omega) hg (by simp) (by simp[g0]) (by simp[g3]) (by simp[g6]) (by simpa using c3) (by rw[c4];exact gO) (fun fr2 S2 e0 e3 e6 ea eO=>?_)
  ·have hm:ls[i]∈ls:=cr hi;constructor<;>(unfold dp;exact List.mem_flatMap.2 ⟨_,hm,List.mem_flatMap.2 ⟨x,hxm,by simp⟩⟩)
  ·simp -implicitDefEqProofs [e6];refine k _ _ ⟨by simp[hw1],by simp[e0],by simp[e3],?_,eO⟩
   have e:p++(ls.take (i+1)).flatMap (gL ls)=p++(ls.take i).flatMap (gL ls)++bI ls[i].length++ls[i].flatMap (fq ls):=by
    rw[List.take_succ_eq_append_getElem hi,List.flatMap_append];simp[gL]
   rw[e];simpa using ea
 ·rintro fr' S' ⟨g6,g0,g3,ga,gO⟩;rw[List.take_length]at ga;rw[aV];simp -implicitDefEqProofs [g6,g0,hlen];exact kk _ _ (by simpa using ga)
def aAg:T.fn 135=some (.code mV):=rfl
def aAh{ls:List (List aT)}{v:PV}(h:fC ls)(hv:iU v ls)(S:St):∃v',aM T 135 [v] S=some (v',S)∧am 1 v' (aI (dP ls)):=by
 obtain⟨hlen,hget⟩:=hv.get;have hl:=h.len;have htl:=kp h;obtain⟨tv,ht1,ht2⟩:=aAb h hv S;have htv:=ht2.reads;have htln:=htv.len;rw[bU]at htln;obtain⟨vu,S1,a1,a2,a3⟩:=wD (n:=(bY ls).length) (by omega) (aN.refl S);have hu:=dK (n:=(bY ls).length) (by omega);have hu2:=dK (n:=ls.length) (by omega);have hwl:∀w∈bY ls,w.length≤64:=fun w hw=>sk h (mL.1 hw);have htb:=QJ (bY ls) hwl
 have main:∀Q:Fr→St→Prop,(∀fr' S',ad S 1 S' (fr' 2) (aI (dP ls))→Q fr' S')→Ok (aE T [.code mV.body] (bg [v]) S) Q:=by
  intro Q hQ;simp -implicitDefEqProofs [mV,ht1,htln,a1];refine aAd htl hwl htv (O:=S.objs) (xv:=v) (p:=bI (bY ls).length) (by omega) (by simp) (by simp) (by simp) (by simpa using a2) a3 (fun fr' S' h0 h3 ga gO=>?_);obtain⟨u1,T1,v1,S2,c0,c1,c2,c3,c4⟩:=mi ga (n:=ls.length) (by omega) (by rw[aZ];omega);simp -implicitDefEqProofs [h0,h3,hlen,c0,c1,c2];refine aAf h hv htv (O:=S.objs) (p:=bI (bY ls).length++(bY ls).flatMap dD++bI ls.length) (by simp only[aZ];omega) (by simp) (by simp[h0]) (by simp[h3]) (by simpa using c3) (c4.trans gO) (fun fr2 S3 ea=>?_);simp -implicitDefEqProofs;exact hQ _ _ (by rw[sn];simpa using ea)
 obtain⟨r,S2,e,e2,e3⟩:=gt (T:=T) aAg (args:=[v]) (S:=S) rfl (R:=fun r S2=>S2=S∧am 1 r (aI (dP ls))) (main _ (fun fr' S' ha=>by
  obtain⟨f1,f2⟩:=ha.sl0 (iE _) (sS _) (sT _);exact⟨[fr' 2],by simp[mV,bh,fN],congrArg Prod.snd f1,by show am 1 (ak false S S' (fr' 2)).1 _;rw[f1];exact f2⟩))
 subst e2;exact⟨r,e,e3⟩
end Ps
set_option linter.defProp false
namespace Ps
set_option linter.unusedSimpArgs false
set_option linter.unusedVariables false
open Go Go.Proofs
set_option maxRecDepth 100000
def eK.get{v:PV}{l:List bf}(hv:eK v l):dc false v=some (.int .i64 l.length)∧∀i (hi:i<l.length),∃lv sv,cC 2 v (.int .i64 (i:Int))=some (.ref [lv,sv])∧am 2 lv (l[i].1.map ac)∧am 2 sv (l[i].2.map bB):=by
 obtain⟨es,h1,h2,h3⟩:=hv;refine⟨by rw[h1.len,h2],fun i hi=>?_⟩;obtain⟨lv,sv,he,hlv,hsv⟩:=h3 i hi (by omega);refine⟨lv,sv,?_,hlv,hsv⟩;rw[h1.reads.get i (by omega) .i64,he];rfl
def aAi:T.fn 174=some (.code oC):=rfl
def QK{l:List bf}{v:PV}(hv:eK v l)(hl:l.length≤256)(S:St):∃v',aM T 174 [v] S=some (v',S)∧iU v' (l.map (·.1)):=by
 obtain⟨hvl,hget⟩:=hv.get
 have main:∀Q:Fr→St→Prop,(∀fr S' v' qs,ad S 1 S' v' qs→qs.length=l.length→(∀(i:Nat) (h:i<l.length) (h':i<qs.length),am 2 qs[i] (l[i].1.map ac))→fr 2=v'→Q fr S') →
   Ok (aE T [.code oC.body] (bg [v]) S) Q:=by
  intro Q hQ;simp -implicitDefEqProofs [oC];refine db l.length (fun i fr S'=>fr 0=v∧fr 4=.int .i64 (i:Int)∧∃qs,ad S 1 S' (fr 3) qs∧qs.length=i∧∀(j:Nat) (h:j<l.length) (h':j<qs.length),am 2 qs[j] (l[j].1.map ac)) ?_ ?_ 0 (by omega) _ _ ⟨by simp,by simp,[],by simpa using oS 1 (aN.refl S),rfl,fun j h h'=>by simp at h'⟩
  ·rintro i fr S' hi ⟨h0,h4,qs,ha,hq,hqs⟩ k;obtain⟨lv,sv,hg,hlv,hsv⟩:=hget i hi;have hw:IntKind.i64.wrap ((i:Int)+1)=((i+1:Nat):Int):=by rw[au]<;>omega
   have hii:(i:Int)<(l.length:Int):=by omega
   obtain⟨o1,o2⟩:=hlv.one;have hn:PV.nils.cells=[.nils]:=rfl;obtain⟨v',S2,a1,a2,a3⟩:=ha.push (bytes:=24) lv (by omega);rw[aV];simp -implicitDefEqProofs [h0,h4,hvl,hi,hii,hg,bM,aH,hn,o1,o2,cA,cc,a1];refine k _ _ ?_;refine⟨by simp[h0],by simp[hw],qs++[lv],by simpa using a2,by simp[hq],fun j h h'=>?_⟩;simp only[aZ,bE,cO]at h';by_cases hj:j<qs.length
   ·rw[List.getElem_append_left hj];exact hqs j h hj
   ·have:j=i:=by omega
    subst this;rw[List.getElem_append_right (by omega)];simpa[hq]using hlv
  ·rintro fr S' ⟨h0,h4,qs,ha,hq,hqs⟩;rw[aV];simp -implicitDefEqProofs [h0,h4,hvl];exact hQ _ _ _ qs ha hq hqs (by simp)
 obtain⟨⟨fr,S'⟩,hg,v',qs,ha,hq,hqs,h2⟩:=main (fun fr S'=>∃v' qs,ad S 1 S' v' qs∧qs.length=l.length∧(∀(i:Nat) (h:i<l.length) (h':i<qs.length),am 2 qs[i] (l[i].1.map ac))∧fr 2=v') (fun fr S' v' qs h1 h2 h3 h4=>⟨v',qs,h1,h2,h3,h4⟩);simp only at h2 ha;subst h2
 have hfree:PV.freeL qs=true:=gT fun x hx=>by
  obtain⟨i,hi,rfl⟩:=eC hx;exact(hqs i (by omega) hi).free
 have hfrz:PV.frzL qs=qs:=by
  rw[fH]
  have:qs.map PV.frz=qs.map id:=ly fun x hx=>by
   obtain⟨i,hi,rfl⟩:=eC hx;exact(hqs i (by omega) hi).frz
  rw[this,pM]
 have hcells:∀e∈qs,e.cells.length=1:=fun x hx=>by
  obtain⟨i,hi,rfl⟩:=eC hx;rw[(hqs i (by omega) hi).one.2];rfl
 obtain⟨f1,f2⟩:=ha.sl0 hcells hfree hfrz;refine⟨gu (fr 2) qs,bP aAi rfl ⟨(fr,S'),hg,[fr 2],rfl,f1⟩,qs,f2.isl,by simpa using hq,fun i h h'=>?_⟩;simp only[bU]at h;simpa using (hqs i h h').isl
def QL(l:List bf)(i:Nat):bZ (l.take i)≤bZ l:=by
 unfold bZ
 conv=>rhs;rw[←jx i l,dS,List.sum_append]
 omega
def QM(l:List bf)(s:bf):bZ (l++[s])=bZ l+s.2.length:=by simp[bZ]
def aAj:T.fn 169=some (.code mU):=rfl
def aAk{l:List bf}{v:PV}(hv:eK v l)(hl:l.length≤1048576)(hb:∀s∈l,s.2.length≤1048576)(S:St):∃n:Nat,aM T 169 [v] S=some (.int .i64 (n:Int),S)∧(65536<n↔65536<bZ l):=by
 obtain⟨hvl,hget⟩:=hv.get
 have main:∀Q:Fr→St→Prop,(∀fr' (n:Nat),(65536<n↔65536<bZ l)→fr' 2=.int .i64 (n:Int)→Q fr' S)→Ok (aE T [.code mU.body] (bg [v]) S) Q:=by
  intro Q hQ;simp -implicitDefEqProofs [mU]
  have key:∀(n i:Nat),l.length-i=n→i≤l.length→∀fr:Fr,fr 0=v→fr 3=.int .i64 ((bZ (l.take i):Nat):Int)→fr 4=.int .i64 (i:Int)→bZ (l.take i)≤65536+1048576 →
    Ok (aE T [.lp xk,.blk 0,.code (.seq (.clr [(23,24)] (.region xl)) .ret)] fr S) Q:=by
   intro n
   induction n with
   |zero=>
    intro i hni hil fr h0 h3 h4 hT;have hi:i=l.length:=by omega
    subst hi;rw[List.take_length]at h3;rw[aV];simp -implicitDefEqProofs [h0,h3,h4,hvl]
    exact hQ _ (bZ l) Iff.rfl (by simp)
   |succ n ih=>
    intro i hni hil fr h0 h3 h4 hT;have hi:i<l.length:=by omega
    have hii:(i:Int)<(l.length:Int):=by omega
    have hsn:bZ (l.take (i+1))=bZ (l.take i)+l[i].2.length:=by rw[lK hi,QM]
    have hbi:=hb _ (cr hi);obtain⟨t,ht⟩:∃t,t=bZ (l.take i):=⟨_,rfl⟩;rw[←ht]at h3 hT hsn;by_cases hc:t≤65536
    ·obtain⟨lv,sv,hg,hlv,hsv⟩:=hget i hi;have hsl:=hsv.len;rw[bU]at hsl;obtain⟨o1,o2⟩:=hsv.one;have hw:IntKind.i64.wrap ((i:Int)+1)=((i+1:Nat):Int):=by rw[au]<;>omega
     have hw2:IntKind.i64.wrap ((t:Int)+(l[i].2.length:Int))=((bZ (l.take (i+1)):Nat):Int):=by rw[au]<;>omega
     have hci:(t:Int)≤65536:=by omega
     rw[aV];simp -implicitDefEqProofs [h0,h3,h4,hvl,hi,hii,hc,hci,hg,bM,hsl,o1,o2,hw,hw2];exact ih (i+1) (by omega) (by omega) _ (by simp[h0]) (by simp) (by simp) (by omega)
    ·have hci:¬(t:Int)≤65536:=by omega
     rw[aV];simp -implicitDefEqProofs [h0,h3,h4,hvl,hi,hii,hc,hci];exact hQ _ t ⟨fun _=>by have:=QL l i;omega,fun _=>by omega⟩ (by simp)
  exact key l.length 0 (by omega) (by omega) _ (by simp) (by simp[bZ]) (by simp) (by simp[bZ])
 obtain⟨⟨fr,S'⟩,hg,n,hn,h2,rfl⟩:=main (fun fr S'=>∃n:Nat,(65536<n↔65536<bZ l)∧fr 2=.int .i64 (n:Int)∧S'=S) (fun fr n h1 h2=>⟨n,h1,h2,rfl⟩);refine⟨n,bP aAj rfl ⟨(fr,_),hg,[fr 2],by simp[mU,bh,fN],?_⟩,hn⟩;simp only at h2;rw[h2];exact eR (aN.refl _) rfl
end Ps
set_option linter.defProp false
namespace Ps
set_option linter.unusedSimpArgs false
set_option linter.unusedVariables false
open Go Go.Proofs
set_option maxRecDepth 100000
def aAl:T.fn 52=some (.code z44):=rfl
def aAm{ls:List (List aT)}{v:PV}(hv:iU v ls)(hb:∀l∈ls,l.length≤maxLen∧∀x∈l,x.1.length≤maxLen)(hl:ls.length≤1048576){K:List Kt}{Q:Fr→St→Prop}{S:St}{z:Nat}
  (k1:z=0→∀fr',Ok (aE T K fr' S) Q)(k2:∀e,z=e→e≠0→∀fr',fr' 2=.int .i64 (e:Int)→Q fr' S):∀(n i:Nat),ls.length-i=n→i≤ls.length→z=ez ls i→∀(fr:Fr),
  fr 0=v→fr 3=.int .i64 (i:Int)→Ok (aE T (.lp xn::.blk 0::K) fr S) Q:=by
 obtain⟨hlen,hget⟩:=hv.get;intro n
 induction n with
 |zero=>
  intro i hni hil hs fr h0 h3;have hi:i=ls.length:=by omega
  have hc:ez ls i=0:=by rw[ez,dif_neg (by omega)]
  rw[aV];simp -implicitDefEqProofs [h0,h3,hlen,hi]
  exact k1 (hs.trans hc) _
 |succ n ih=>
  intro i hni hil hs fr h0 h3;have hi:i<ls.length:=by omega
  have hii:(i:Int)<(ls.length:Int):=by omega
  obtain⟨lv,hg,hlv⟩:=hget i hi;obtain⟨b1,b2⟩:=hb _ (cr hi);have hck:=fun S=>TY hlv.reads b2 b1 S;have hw:IntKind.i64.wrap ((i:Int)+1)=((i+1:Nat):Int):=by rw[au]<;>omega
  rw[ez,dif_pos hi]at hs;by_cases hc:dn ls[i]=0
  ·rw[hc]at hck;have hck:∀S,aM T 98 [lv] S=some (.int .i64 0,S):=hck;by_cases hi0:0<i
   ·obtain⟨pv,hgp,hpv⟩:=hget (i-1) (by omega);obtain⟨c1,c2⟩:=hb _ (cr (show i-1<ls.length by omega));have hcm:=fun S=>BO hpv.reads hlv.reads c1 S;have hsub:IntKind.i64.wrap ((i:Int)-1)=((i-1:Nat):Int):=by rw[au]<;>omega
    by_cases hcmp:0≤dJ ls[i-1] ls[i]
    ·have hset:eV ls i hi=13:=by simp[eV,hc,hi0,hcmp]
     rw[hset,if_neg (by decide)]at hs;have k2:=k2 13 hs (by decide);clear ih k1;rw[aV];simp -implicitDefEqProofs [h0,h3,hlen,hi,hii,hg,bM,hck,hi0,hgp,hsub,hcm,hcmp];exact k2 _ (by simp)
    ·have hset:eV ls i hi=0:=by simp[eV,hc,hi0,hcmp]
     rw[hset,if_pos rfl]at hs;have ih:=ih (i+1) (by omega) (by omega) hs;clear k1 k2;rw[aV];simp -implicitDefEqProofs [h0,h3,hlen,hi,hii,hg,bM,hck,hi0,hgp,hsub,hcm,hcmp];exact ih _ (by simp[h0]) (by simp[hw])
   ·have hset:eV ls i hi=0:=by simp[eV,hc,hi0]
    rw[hset,if_pos rfl]at hs;have ih:=ih (i+1) (by omega) (by omega) hs;clear k1 k2;rw[aV];simp -implicitDefEqProofs [h0,h3,hlen,hi,hii,hg,bM,hck,hi0];exact ih _ (by simp[h0]) (by simp[hw])
  ·have hset:eV ls i hi=dn ls[i]:=by simp[eV,hc]
   rw[hset,if_neg hc]at hs;have k2:=k2 _ hs hc;have hne:(((dn ls[i]:Nat):Int) != 0)=true:=by simpa using hc
   generalize ((dn ls[i]:Nat):Int)=e at hck hne k2;clear ih k1;rw[aV];simp -implicitDefEqProofs [h0,h3,hlen,hi,hii,hg,bM,hck,hne];exact k2 _ (by simp)
def aAn{ls:List (List aT)}{v:PV}(hv:iU v ls)(hb:∀l∈ls,l.length≤maxLen∧∀x∈l,x.1.length≤maxLen)(hl:ls.length≤1048576)(S:St):aM T 52 [v] S=some (.int .i64 (df ls:Nat),S):=by
 obtain⟨hlen,hget⟩:=hv.get;refine bP aAl rfl ?_;by_cases h:256<ls.length
 ·have hn:df ls=3:=by rw[df,if_pos h]
  have hc:(256:Int)<(ls.length:Int):=by omega
  simp -implicitDefEqProofs [z44,hlen,h,hc,hn,aN.refl]
 ·have hn:df ls=ez ls 0:=by rw[df,if_neg h]
  have hc:¬(256:Int)<(ls.length:Int):=by omega
  rw[hn];simp -implicitDefEqProofs [z44,hlen,h,hc];refine aAm (z:=ez ls 0) hv hb hl (fun hz fr'=>?_) (fun e he hne fr' h2=>?_) ls.length 0 (by omega) (by omega) rfl _ (by simp) (by simp)
  ·simp -implicitDefEqProofs [hz,aN.refl]
  ·simp -implicitDefEqProofs [h2,he,aN.refl]
def aAo:T.fn 151=some (.code lA):=rfl
def aAp{l:List bf}{v:PV}(hv:eK v l)(hb:∀s∈l,s.2.length≤1048576)(hl:l.length≤1048576){K:List Kt}{Q:Fr→St→Prop}{S:St}{z:Nat}
  (k1:z=0→∀fr',Ok (aE T K fr' S) Q)(k2:∀e,z=e→e≠0→∀fr',fr' 2=.int .i64 (e:Int)→Q fr' S):∀(n i:Nat),l.length-i=n→i≤l.length→z=fZ l i→∀(fr:Fr),
  fr 0=v→fr 4=.int .i64 (i:Int)→Ok (aE T (.lp xD::.blk 0::K) fr S) Q:=by
 obtain⟨hlen,hget⟩:=hv.get;intro n
 induction n with
 |zero=>
  intro i hni hil hs fr h0 h4;have hi:i=l.length:=by omega
  have hc:fZ l i=0:=by rw[fZ,dif_neg (by omega)]
  rw[aV];simp -implicitDefEqProofs [h0,h4,hlen,hi]
  exact k1 (hs.trans hc) _
 |succ n ih=>
  intro i hni hil hs fr h0 h4;have hi:i<l.length:=by omega
  have hii:(i:Int)<(l.length:Int):=by omega
  obtain⟨lv,sv,hg,hlv,hsv⟩:=hget i hi;have hsl:=hsv.len;rw[bU]at hsl;obtain⟨o1,o2⟩:=hsv.one;have hri:=fun S=>Pt hsv.reads (hb _ (cr hi)) S;have hw:IntKind.i64.wrap ((i:Int)+1)=((i+1:Nat):Int):=by rw[au]<;>omega
  rw[fZ,dif_pos hi]at hs;by_cases hz:l[i].2.length=0
  ·rw[if_pos hz]at hs;have k2:=k2 2 hs (by decide);rw[hz]at hsl;have hsl:dc false sv=some (.int .i64 0):=hsl;clear ih k1;rw[aV];simp -implicitDefEqProofs [h0,h4,hlen,hi,hii,hg,bM,hsl];exact k2 _ (by simp)
  ·rw[if_neg hz]at hs;have hzb:(((l[i].2.length:Nat):Int)==0)=false:=by rw[beq_eq_false_iff_ne];omega
   generalize ((l[i].2.length:Nat):Int)=L at hsl hzb;by_cases hc:cE l[i].2 0=0
   ·rw[if_pos hc]at hs;rw[hc]at hri;have hri:∀S,aM T 257 [sv] S=some (.int .i64 0,S):=hri;have ih:=ih (i+1) (by omega) (by omega) hs;clear k1 k2;rw[aV];simp -implicitDefEqProofs [h0,h4,hlen,hi,hii,hg,bM,hsl,hzb,hri];exact ih _ (by simp[h0]) (by simp[hw])
   ·rw[if_neg hc]at hs;have k2:=k2 _ hs hc;have hne:(((cE l[i].2 0:Nat):Int) != 0)=true:=by simpa using hc
    generalize ((cE l[i].2 0:Nat):Int)=e at hri hne k2;clear ih k1;rw[aV];simp -implicitDefEqProofs [h0,h4,hlen,hi,hii,hg,bM,hsl,hzb,hri,hne];exact k2 _ (by simp)
structure rB(l:List bf):Prop where
 len:l.length≤1048576
 smp:∀s∈l,s.2.length≤1048576
 lab:∀s∈l,s.1.length≤maxLen∧∀x∈s.1,x.1.length≤maxLen
def yy{l:List bf}{v:PV}(hv:eK v l)(h:rB l)(S:St):aM T 151 [v] S=some (.int .i64 (dU l:Nat),S):=by
 obtain⟨hlen,hget⟩:=hv.get;have hl:=h.len;obtain⟨n,hcn,hct⟩:=aAk hv h.len h.smp S;refine bP aAo rfl ?_;by_cases hbig:256<l.length∨65536<bZ l
 ·have hn:dU l=3:=by rw[dU,if_pos hbig]
  rw[hn];by_cases h1:256<l.length
  ·have hc:(256:Int)<(l.length:Int):=by omega
   simp -implicitDefEqProofs [lA,hlen,h1,hc,aN.refl]
  ·have hc:¬(256:Int)<(l.length:Int):=by omega
   have h2:65536<n:=hct.2 (by omega);have hc2:(65536:Int)<(n:Int):=by omega
   simp -implicitDefEqProofs [lA,hlen,h1,hc,hcn,h2,hc2,aN.refl]
 ·have h1:¬256<l.length:=by omega
  have hc:¬(256:Int)<(l.length:Int):=by omega
  have h2:¬65536<n:=fun e=>by have:=hct.1 e;omega
  have hc2:¬(65536:Int)<(n:Int):=by omega
  obtain⟨sv,hs1,hs2⟩:=QK hv (by omega) S
  have hnew:=aAn hs2 (fun m hm=>by
   obtain⟨s,hs,rfl⟩:=List.mem_map.1 hm;exact h.lab s hs) (by rw[bU];omega) S
  have hbn:dU l=if df (l.map (·.1))≠0 then df (l.map (·.1))else fZ l 0:=by rw[dU,if_neg hbig]
  rw[hbn];generalize df (l.map (·.1))=e at hnew;by_cases he:e=0
  ·subst he;rw[if_neg (by simp)];have hnew:aM T 52 [sv] S=some (.int .i64 0,S):=hnew;simp -implicitDefEqProofs [lA,hlen,h1,hc,hcn,h2,hc2,hs1,hnew];refine aAp (z:=fZ l 0) hv h.smp h.len (fun hz fr'=>?_) (fun e he hne fr' h2=>?_) l.length 0 (by omega) (by omega) rfl _ (by simp) (by simp)
   ·simp -implicitDefEqProofs [hz,aN.refl]
   ·simp -implicitDefEqProofs [h2,he,aN.refl]
  ·rw[if_pos he];have hne:(((e:Nat):Int) != 0)=true:=by simpa using he
   generalize ((e:Nat):Int)=ei at hnew hne;simp -implicitDefEqProofs [lA,hlen,h1,hc,hcn,h2,hc2,hs1,hnew,hne,aN.refl]
end Ps
