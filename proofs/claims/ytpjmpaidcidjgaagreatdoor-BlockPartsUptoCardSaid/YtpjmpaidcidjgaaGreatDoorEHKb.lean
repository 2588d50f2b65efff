/- The index of bytes: walked. -/
import Derived.Test.YtpjmpaidcidjgaaGreatDoorDefsKb
import Derived.Test.YtpjmpaidcidjgaaGreatDoorBWKb
set_option linter.defProp false
namespace Ps
set_option linter.unusedSimpArgs false
set_option linter.unusedVariables false
open Go Go.Proofs
structure mj(S0 S:St)(ob o8:Nat)(p:List UInt8):Prop where
 wt:pp S0 S ob p
 ne:o8≠ob
 fn:S.objs[o8]?=some [.fn 261 [.ptr ob 0]]
def Yh{S0:St}{ob o8:Nat}{cs:List (List Sm)}{cv:PV}(hv:uz cv cs)(hcs:∀c∈cs,fV c=0)(hl:cs.length≤4000000000){p:List UInt8}(hp:p.length+(cs.flatMap fun c=>cE (bo c)).length≤50000000){K:List Kt}{Q:Fr→St→Prop}{fr:Fr}{S:St}{o1 o2 o3:PV}
  (h49:fr 49=cv)(h50:fr 50=.int .i64 (cs.length:Int))(h51:fr 51=.int .i64 0)(h7:fr 7=.ptr ob 0)(h8:fr 8=.ptr o8 0)(h9:fr 9=.fn 262 [.ptr o8 0,.ptr ob 0])(h36:fr 36=o1)(h37:fr 37=o2)(h38:fr 38=o3)(hw:mj S0 S ob o8 p)
  (kk:∀fr' S',fr' 7=.ptr ob 0→fr' 8=.ptr o8 0→fr' 9=.fn 262 [.ptr o8 0,.ptr ob 0]→fr' 36=o1→fr' 37=o2→fr' 38=o3→mj S0 S' ob o8 (p++cs.flatMap fun c=>cE (bo c))→Ok (aE T1 K fr' S') Q) :
  Ok (aE T1 (.lp zX::.blk 2::K) fr S) Q:=by
 obtain⟨es,hes,hel,hee⟩:=hv
 refine jm cs.length (fun i fr' S'=>fr' 49=cv∧fr' 50=.int .i64 (cs.length:Int)∧fr' 51=.int .i64 (i:Int)∧fr' 7=.ptr ob 0∧fr' 8=.ptr o8 0∧fr' 9=.fn 262 [.ptr o8 0,.ptr ob 0]∧fr' 36=o1∧fr' 37=o2∧fr' 38=o3∧mj S0 S' ob o8 (p++(cs.take i).flatMap fun c=>cE (bo c))) ?_ ?_ 0 (cP _) _ _
  ⟨h49,h50,by simpa using h51,h7,h8,h9,h36,h37,h38,by simpa using hw⟩
 ·rintro i fr' S' hi ⟨g49,g50,g51,g7,g8,g9,g36,g37,g38,gw,gne,g8o⟩ k;have hie:i<es.length:=by omega
  have hsl:=hee i hi hie;have hg:=hes.reads.get i hie .i64;rw[hsl.one.2]at hg;obtain⟨bv,e1,e2⟩:=Xq hsl.reads (hcs _ (List.getElem_mem hi)) S';have e1:=lW e1;have hpre:=GG (fun c=>cE (bo c)) cs (i+1)
  have htk:(cs.take (i+1)).flatMap (fun c=>cE (bo c))=(cs.take i).flatMap (fun c=>cE (bo c))++cE (bo cs[i]):=by
   rw[List.take_succ_eq_append_getElem hi,nm];simp
  rw[htk,am]at hpre;have hpl:(bo cs[i]).length≤(cE (bo cs[i])).length:=by simp only[cE,am];omega
  obtain⟨S2,d1,d2,d3,d4⟩:=Fy gw (by rw[am];omega) g8o gne e2.isl;have hw1:IntKind.i64.wrap ((i:Int)+1)=((i+1:Nat):Int):=by rw[au]<;>omega
  have hlt:(i:Int)<(cs.length:Int):=by omega
  rw[ax];simp -implicitDefEqProofs [g49,g50,g51,g7,g8,g9,hg,hlt,hi,bD,e1,d1];refine k _ _ ⟨by simp[g49],by simp[g50],by simp[hw1],by simp[g7],by simp[g8],by simp[g9],by simp[g36],by simp[g37],by simp[g38],?_,gne,by rw[d4 _ gne];exact g8o⟩;rw[htk,←fi];exact d2
 ·rintro fr' S' ⟨g49,g50,g51,g7,g8,g9,g36,g37,g38,gw⟩;rw[kf]at gw;rw[ax];simp -implicitDefEqProofs [g50,g51];exact kk _ _ (by simp[g7]) (by simp[g8]) (by simp[g9]) (by simp[g36]) (by simp[g37]) (by simp[g38]) gw
def Yi{S0:St}{ob o8:Nat}{l:List cD}(hb:yf l){v:PV}{es:List PV}(hv:cM 2 v es)(hlen:es.length=l.length)(hel:∀(i:Nat)(h:i<l.length)(h':i<es.length),iZ es[i] l[i]){p:List UInt8}(hp:p.length+(l.flatMap cx).length≤50000000){K:List Kt}{Q:Fr→St→Prop}{fr:Fr}{S:St}
  (h36:fr 36=v)(h37:fr 37=.int .i64 (l.length:Int))(h38:fr 38=.int .i64 0)(h7:fr 7=.ptr ob 0)(h8:fr 8=.ptr o8 0)(h9:fr 9=.fn 262 [.ptr o8 0,.ptr ob 0])(hw:mj S0 S ob o8 p)
  (kk:∀fr' S',fr' 7=.ptr ob 0→mj S0 S' ob o8 (p++l.flatMap cx)→Ok (aE T1 K fr' S') Q) :
  Ok (aE T1 (.lp zY::.blk 0::K) fr S) Q:=by
 refine jm l.length (fun i fr' S'=>fr' 36=v∧fr' 37=.int .i64 (l.length:Int)∧fr' 38=.int .i64 (i:Int)∧fr' 7=.ptr ob 0∧fr' 8=.ptr o8 0∧fr' 9=.fn 262 [.ptr o8 0,.ptr ob 0]∧mj S0 S' ob o8 (p++(l.take i).flatMap cx)) ?_ ?_ 0 (cP _) _ _
  ⟨h36,h37,by simpa using h38,h7,h8,h9,by simpa using hw⟩
 ·rintro i fr' S' hi ⟨g36,g37,g38,g7,g8,g9,gw,gne,g8o⟩ k;have hie:i<es.length:=by omega
  obtain⟨lv,sv,he,hlv,hsv⟩:=hel i hi hie;have hg:=hv.get i hie .i64;have hc0:(PV.agg [lv,sv]).cells=[lv,sv]:=rfl;rw[he,hc0]at hg;obtain⟨o1,o2⟩:=hlv.one;obtain⟨s1,s2⟩:=hsv.one
  have hsl:l[i].2.length≤65536:=by
   have:l[i].2.length≤cu l:=pn (List.mem_map.2 ⟨l[i],List.getElem_mem hi,rfl⟩);have:=hb.sum;omega
  obtain⟨hne0,hri⟩:=hb.ser _ (List.getElem_mem hi);have hcl:=rj _ l[i].2 rfl;obtain⟨S1,hS1⟩:∃S1:St,S1=⟨S'.objs++[[lv,sv]],S'.tips⟩:=⟨_,rfl⟩;have hS1l:∀j x,S'.objs[j]?=some x→S1.objs[j]?=some x:=fun j x h=>by rw[hS1];simp only;rw[bK (aM.1 h).1];exact h
  have gw1:pp S0 S1 ob (p++(l.take i).flatMap cx):=by
   obtain⟨a,bv,b,c⟩:=gw;refine⟨a,bv,hS1l _ _ b,?_⟩;rw[hS1];exact c.objs _
  obtain⟨cv,c1,c2⟩:=Xu hsv.isl (by omega) S1;have c1:=lW c1
  have htk:(l.take (i+1)).flatMap cx=(l.take i).flatMap cx++cx l[i]:=by
   rw[List.take_succ_eq_append_getElem hi,nm];simp
  have hpre:=GG cx l (i+1);rw[htk,am]at hpre;have hsb:(cx l[i]).length=(aj (cL l[i].2).length).length+((cL l[i].2).flatMap fun c=>cE (bo c)).length:=by simp only[cx,am]
  obtain⟨S2,d1,d2,d3,d4⟩:=Fx gw1 (by rw[am];omega) (n:=(cL l[i].2).length) (by omega);have h8s:S2.objs[o8]?=some [.fn 261 [.ptr ob 0]]:=by rw[d4 _ gne];exact hS1l _ _ g8o
  have hcvl:eN false cv=some (.int .i64 ((cL l[i].2).length:Int)):=by
   obtain⟨qs,q1,q2,_⟩:=c2;rw[q1.len,q2]
  have hw1:IntKind.i64.wrap ((i:Int)+1)=((i+1:Nat):Int):=by have:=hb.len;rw[au]<;>omega
  have hlt:(i:Int)<(l.length:Int):=by omega
  have hn1:S1.objs[S'.objs.length]?=some [lv,sv]:=by rw[hS1];simp
  have h8s1:=hS1l _ _ g8o;rw[ax];simp -implicitDefEqProofs [g36,g37,g38,g7,g8,g9,hg,hlt,hi,bD,fN,o1,o2,s1,s2,hc0,aG,bt,ak,←hS1,bI hn1,c1,bI h8s1,hcvl,d1];refine Yh c2 (vH _ _ rfl hri) (by omega) (p:=p++(l.take i).flatMap cx++aj (cL l[i].2).length) (by simp only[am]at hpre ⊢;omega) (o1:=v) (o2:=.int .i64 (l.length:Int)) (o3:=.int .i64 (i:Int)) (by simp) (by simp) (by simp) (by simp[g7]) (by simp[g8]) (by simp[g9]) (by simp[g36]) (by simp[g37]) (by simp[g38]) ⟨d2,gne,h8s⟩ (fun fr2 S3 e7 e8 e9 e36 e37 e38 ew=>?_);simp -implicitDefEqProofs [e38];refine k _ _ ⟨by simp[e36],by simp[e37],by simp[hw1],by simp[e7],by simp[e8],by simp[e9],?_⟩
  have e:p++(l.take (i+1)).flatMap cx=p++(l.take i).flatMap cx++aj (cL l[i].2).length++(cL l[i].2).flatMap fun c=>cE (bo c):=by
   rw[htk];simp[cx]
  rw[e];exact ew
 ·rintro fr' S' ⟨g36,g37,g38,g7,g8,g9,gw⟩;rw[kf]at gw;rw[ax];simp -implicitDefEqProofs [g37,g38];exact kk _ _ (by simp[g7]) gw
end Ps
set_option linter.defProp false
namespace Ps
set_option linter.unusedSimpArgs false
set_option linter.unusedVariables false
open Go Go.Proofs
def eD.more{S S2:St}{p:PV}{ls:List (List aQ)}(h:eD S p ls)(hg:aL S S2):eD S2 p ls:=by
 obtain⟨ox,om,n0,sv,qs,kv,h1,h2,h3,h4,h5,h6⟩:=h.at_;obtain⟨o,t,rfl⟩:=hg;refine⟨ox,om,n0,sv,qs,kv,h1,h2,?_,?_,h5.more _ t rfl,h6⟩
 ·simp only;rw[bK (aM.1 h3).1];exact h3
 ·simp only;rw[bK (aM.1 h4).1];exact h4
def lX(l:List cD):Prop:=∀s∈l,(s.1.length≤maxLen∧∀x∈s.1,x.1.length≤maxLen)∧s.2.length≤4000000000
def GH:T1.fn 155=some (.code z35):=rfl
def yh{l:List cD}{v:PV}(hv:iK v l)(hb:lX l)(hN:l.length≤4000000000)(hz:dT l≠0)(S:St):aN T1 155 [v] S=some (.tup [.nils,.int .i64 (dT l)],S):=by
 have hck:=fun S=>lW (yT hv hb hN S);have hc:(((dT l:Nat):Int) != 0)=true:=by simpa using hz
 refine bZ GH rfl ?_;simp -implicitDefEqProofs [z35,hck,hc];exact cZ (aL.refl S) rfl
def yi{l:List cD}{v:PV}(hv:iK v l)(hb:lX l)(hz:dT l=0)(S:St):aN T1 155 [v] S=some (.tup [.sl none (aI (cn l)) [],.int .i64 0],S):=by
 have hk:=kE hz;have hlen:=hk.len;have hck:=fun S=>lW (yT hv hb (by omega) S);rw[hz]at hck;have hck:∀S,aN T1 64 [v] S=some (.int .i64 0,S):=hck;obtain⟨es,hes,hel,hee⟩:=id hv;have hvl:=hes.len;rw[hel]at hvl;obtain⟨v',s1,s2⟩:=FD hv (by omega) S;have s1:=lW s1;obtain⟨w1,w2⟩:=ra s2 (fun x hx=>by obtain⟨s,hs,rfl⟩:=List.mem_map.1 hx;exact(hb s hs).1) (by simp;unfold maxLen;omega) S;obtain⟨S1,n1,n2,n3⟩:=w2 hk.ix;have n1:=lW n1;have hxo:=mh hk.ix;have hS1:S.objs.length≤S1.objs.length∧S.tips.length≤S1.tips.length:=by obtain⟨o,t,rfl⟩:=n2;simp
 obtain⟨Sx,hSx⟩:∃Sx:St,Sx=⟨S1.objs++[[.sl (some (S1.tips.length,4)) (aI ec) []],[.fn 261 [.ptr S1.objs.length 0]]],S1.tips++[(4,1)]⟩:=⟨_,rfl⟩;have hgx:aL S1 Sx:=⟨[[.sl (some (S1.tips.length,4)) (aI ec) []],[.fn 261 [.ptr S1.objs.length 0]]],[(4,1)],hSx⟩;have hob:Sx.objs[S1.objs.length]?=some [.sl (some (S1.tips.length,4)) (aI ec) []]:=by rw[hSx];simp
 have ho8:Sx.objs[S1.objs.length+1]?=some [.fn 261 [.ptr S1.objs.length 0]]:=by rw[hSx];simp
 have hwx:mj S Sx S1.objs.length (S1.objs.length+1) ec:=⟨⟨hS1.1,_,hob,n2.trans hgx,.inr ⟨S1.tips.length,hS1.2,rfl,by rw[hSx];simp;rfl⟩⟩,by omega,ho8⟩;have hby:=Ft (n3.more hgx) hxo;have hbl:=vI hk;have hbe:(cX l).length=ec.length+(cE (cU (l.map (·.1)))).length+(l.flatMap cx).length:=by simp only[cX,am]
 have hil:=yg hxo;obtain⟨S3,p1,p2,p3,p4⟩:=Fy (x:=cU (l.map (·.1))) hwx.wt (by have:ec.length=4:=rfl;omega) ho8 hwx.ne (lV _).isl;have hw3:mj S S3 S1.objs.length (S1.objs.length+1) (ec++cE (cU (l.map (·.1)))):=⟨p2,hwx.ne,by rw[p4 _ hwx.ne];exact ho8⟩;have hmg:aI ec=[.int .u8 71,.int .u8 66,.int .u8 75,.int .u8 49]:=rfl;rw[hmg]at hSx
 have main:∀Q:Fr→St→Prop,(∀fr S' bv,ah S 1 S' bv (aI (cn l))→fr 2=bv→fr 3=.int .i64 0→Q fr S')→Ok (aE T1 [.code z35.body] (bk [v]) S) Q:=by
  intro Q hQ;simp -implicitDefEqProofs [z35,hck,s1,n1,aG,cY,dU,dy,bt,ak,←hSx,hby,p1,hvl];refine Yi (S0:=S) (ob:=S1.objs.length) (o8:=S1.objs.length+1) (p:=ec++cE (cU (l.map (·.1)))) hk hes.reads hel hee (by simp only[am];omega) (by simp) (by simp) (by simp) (by simp) (by simp) (by simp) hw3 (fun fr' S4 g7 gw=>?_);obtain⟨⟨_,bv,ho4,ha4⟩,_,_⟩:=gw;have ha4:ah S 1 S4 bv (aI (cX l)):=ha4;have hs4:=Fz (b:=cX l) (ha4.isSl (md _)).reads (by omega) S4;have hs4:dP (aN T1) .keep 161 [bv] S4=some (.sl none (aI (gG (cX l))) [],S4):=FQ hs4;obtain⟨v2,S5,a1,a2,a3⟩:=ha4.app (bytes:=1) (aI (gG (cX l))) (by rw[bh,bh];have:(gG (cX l)).length=4:=rfl;omega);have hap:=((lV (gG (cX l))).isl).appdS (S:=S4);simp -implicitDefEqProofs [g7,bI ho4,bD,hs4,hap,a1];refine hQ _ _ v2 ?_ (by simp) (by simp);rw[cn,ph];exact a2
 obtain⟨r,S',h1,h2,h3⟩:=qW (R:=fun r S'=>r=.tup [.sl none (aI (cn l)) [],.int .i64 0]∧S'=S) GH rfl (main _ (fun fr S' bv ha f2 f3=>by
  refine⟨[bv,.int .i64 0],by simp[z35,cF,gu,f2,f3],?_⟩;have hfree:PV.freeL (aI (cn l))=true:=jp _ (fun _=>rfl) _;have hfrz:PV.frzL (aI (cn l))=aI (cn l):=jq _ (fun _=>rfl) _;have hne:aI (cn l)≠[]:=by simp[cn,cX,ec,aI]
  obtain⟨id,e⟩:∃id,bv=.sl (some (id,(aI (cn l)).length)) (aI (cn l)) []:=by
   rcases ha.acc with⟨_,e⟩|⟨id,_,e,_⟩
   ·exact absurd e hne
   ·exact⟨id,e⟩
  have hf:aW false S S' (.tup [bv,.int .i64 0])=(.tup [.sl none (aI (cn l)) [],.int .i64 0],S):=by
   rw[cZ ha.grows (by rw[e];simp[PV.free,PV.freeL,hfree]),e];simp[PV.frz,PV.frzL,hfrz]
  exact⟨congrArg Prod.fst hf,congrArg Prod.snd hf⟩))
 subst h2 h3;exact h1
end Ps
set_option linter.defProp false
namespace Ps
set_option linter.unusedSimpArgs false
set_option linter.unusedVariables false
open Go Go.Proofs
set_option maxRecDepth 100000
def ii(qs:List PV)(ls:List (List aQ)):Prop:=qs.length=ls.length∧∀(i:Nat) (h:i<ls.length) (h':i<qs.length),ba 2 qs[i] (ls[i].map bH)
def ii.push{qs:List PV}{ls:List (List aQ)}(h:ii qs ls){v:PV}{l:List aQ}(hv:ba 2 v (l.map bH)):ii (qs++[v]) (ls++[l]):=by
 refine⟨by simp[h.1],fun i h1 h2=>?_⟩;simp only[am,bL,cW]at h1 h2;by_cases hi:i<qs.length
 ·rw[List.getElem_append_left hi];have hl:i<ls.length:=by have:=h.1;omega
  have:=h.2 i hl hi
  rwa [List.getElem_append_left hl]
 ·have e:i=qs.length:=by omega
  subst e;rw[List.getElem_append_right (by omega),List.getElem_append_right (by have:=h.1;omega)];simpa[h.1]using hv
def ii.cells{qs:List PV}{ls:List (List aQ)}(h:ii qs ls):∀e∈qs,e.cells.length=1:=by
 intro e he;obtain⟨i,hi,rfl⟩:=dz he;rw[(h.2 i (by have:=h.1;omega) hi).one.2];rfl
def lD(l:List aQ):Prop:=∀x∈l,x.1.length≤64∧x.2.1.length≤64
def tG{r:Nat}{bv:PV}{b:List UInt8}{a:Nat}{most:Int}{S:St}(hv:ba 1 bv (aI b))(hb:b.length≤67108864)(ho:S.objs[r]?=some [bv,.int .i64 (a:Int),.bool false]){n nx:Nat}(h:dt b a most=some (n,nx)) :
  aN T2 232 [.ptr r 0,.int .i64 most] S=some (.int .i64 (n:Int),irSet S r bv nx false):=by
 have:=fv (RT (most:=most) hv hb ho);rw[h]at this;exact this
def tH{r:Nat}{bv:PV}{b:List UInt8}{a:Nat}{most:Int}{S:St}(hv:ba 1 bv (aI b))(hb:b.length≤67108864)(ho:S.objs[r]?=some [bv,.int .i64 (a:Int),.bool false])(h:dt b a most=none) :
  aN T2 232 [.ptr r 0,.int .i64 most] S=some (.int .i64 0,irSet S r bv a true):=by
 have:=fv (RT (most:=most) hv hb ho);rw[h]at this;exact this
def CJ{S S':St}{r a c:Nat}{bv:PV}{d e:Bool}(hr:r<S.objs.length)(h:aL (irSet S r bv a d) S'):aL (irSet S r bv c e) (irSet S' r bv c e):=by
 obtain⟨o,t,rfl⟩:=h;refine⟨o,t,?_⟩;simp only[irSet,St.mk.injEq,and_true];rw[uR _ _ (by simpa using hr),uS]
def RU{S S':St}{r a c sz:Nat}{bv v:PV}{es:List PV}{d e:Bool}(hr:r<S.objs.length)(h:ah (irSet S r bv a d) sz S' v es):ah (irSet S r bv c e) sz (irSet S' r bv c e) v es:=⟨CJ hr h.grows,h.acc⟩
def RV{S S':St}{r a:Nat}{bv:PV}{d:Bool}(hr:r<S.objs.length)(h:aL (irSet S r bv a d) S'):S'.objs[r]?=some [bv,.int .i64 (a:Int),.bool d]:=h.get (jJ hr)
def aAv{S0:St}{r:Nat}{v bv lv:PV}{b:List UInt8}{L:List Wd}{N:Nat}(hr:r<S0.objs.length)(hv:ba 1 bv (aI b))(hb:b.length≤67108864)(hN:N≤8)(hL:L.length≤4096)(hLv:ba 1 lv (L.map .str))(hLw:∀s∈L,s.length≤64){K:List Kt}{Q:Fr→St→Prop}{x6 x30 x31:PV} :
  ∀(k j a:Nat) (l:List aQ) (sv:PV) (fr:Fr) (S:St),j+k=N→l.length=j→kK v r fr→fr 5=lv→fr 6=x6→fr 30=x30→fr 31=x31→fr 7=sv→fr 34=.int .i64 (N:Int)→fr 35=.int .i64 (j:Int) →
  ah (irSet S0 r bv a false) 2 S sv (l.map bH)→lD l →
  (∀l' a' sv' fr' S',jK b L k a l=some (l',a')→kK v r fr'→fr' 5=lv→fr' 6=x6→fr' 30=x30→fr' 31=x31→fr' 7=sv'→ah (irSet S0 r bv a' false) 2 S' sv' (l'.map bH)→lD l'→l'.length=N→Ok (aE T2 K fr' S') Q) →
  (jK b L k a l=none→∀fr' S' a' d,aL (irSet S0 r bv a' d) S'→fr' 2=.nilp→fr' 3=.int .i64 5→Q fr' S')→Ok (aE T2 (.lp Ab::.blk 4::K) fr S) Q:=by
 intro k
 induction k with
 |zero=>
  intro j a l sv fr S hjk hlj hF h5 h6 h30 h31 h7 h34 h35 hA hs k1 k2;have hlt:¬(j:Int)<(N:Int):=by omega
  have hln:¬j<N:=by omega
  rw[ax];simp -implicitDefEqProofs [h34,h35,hlt,hln]
  exact k1 l a sv _ S rfl ⟨by simp[hF.f0],by simp[hF.f4]⟩ (by simp[h5]) (by simp[h6]) (by simp[h30]) (by simp[h31]) (by simp[h7]) hA hs (by omega)
 |succ k ih=>
  intro j a l sv fr S hjk hlj hF h5 h6 h30 h31 h7 h34 h35 hA hs k1 k2;obtain⟨f0,f4⟩:=hF;have hlt:(j:Int)<(N:Int):=by omega
  have hln:j<N:=by omega
  have ho:=RV hr hA.grows;have hrS:=(aM.1 ho).1;have hw1:IntKind.i64.wrap ((j:Int)+1)=((j+1:Nat):Int):=by rw[au]<;>omega
  have hwL:IntKind.i64.wrap ((L.length:Int)-1)=(L.length:Int)-1:=by rw[au]<;>omega
  have hlen:=hLv.len;rw[bz]at hlen
  have hread:∀p:Nat,(p:Int)≤(L.length:Int)-1→ca 1 lv (.int .i64 (p:Int))=some (.ref [.str (L.getD p [])]):=fun p hp=>by
   have:=hLv.reads.get p (by rw[bz];omega) .i64;rw[this];have hp':p<L.length:=by omega
   simp[List.getD_eq_getElem?_getD,hp']
  cases hp:dt b a ((L.length:Int)-1)with
  |none=>
   have u1:=tH hv hb ho hp;have ho1:(irSet S r bv a true).objs[r]?=some [bv,.int .i64 (a:Int),.bool true]:=jJ hrS;have u2:∀x,aN T2 232 [.ptr r 0,x] (irSet S r bv a true)=some (.int .i64 0,irSet S r bv a true):=fun x=>fv (CI ho1);rw[ax];simp -implicitDefEqProofs [f4,h5,h34,h35,hlt,hln,hlen,hwL,u1,u2,bI ho1,bD]
   exact k2 (by rw[jK,nF,hp]) _ _ a true (CJ hr hA.grows) (by simp) (by simp)
  |some pq=>
   obtain⟨p,a1⟩:=pq;have u1:=tG hv hb ho hp;have ho1:(irSet S r bv a1 false).objs[r]?=some [bv,.int .i64 (a1:Int),.bool false]:=jJ hrS;have hA1:ah (irSet S0 r bv a1 false) 2 (irSet S r bv a1 false) sv (l.map bH):=RU hr hA;obtain⟨S1,hS1⟩:∃S1,S1=irSet S r bv a1 false:=⟨_,rfl⟩;rw[←hS1]at ho1 u1 hA1;have hrS1:=(aM.1 ho1).1
   cases hq:dt b a1 ((L.length:Int)-1)with
   |none=>
    have u2:=tH hv hb ho1 hq;have ho2:(irSet S1 r bv a1 true).objs[r]?=some [bv,.int .i64 (a1:Int),.bool true]:=jJ hrS1;rw[ax];simp -implicitDefEqProofs [f4,h5,h34,h35,hlt,hln,hlen,hwL,u1,u2,bI ho2,bD]
    exact k2 (by rw[jK,nF,hp];simp only;rw[hq]) _ _ a1 true (CJ hr hA1.grows) (by simp) (by simp)
   |some qq=>
    obtain⟨q,a2⟩:=qq;have u2:=tG hv hb ho1 hq;have ho2:(irSet S1 r bv a2 false).objs[r]?=some [bv,.int .i64 (a2:Int),.bool false]:=jJ hrS1;have hA2:ah (irSet S0 r bv a2 false) 2 (irSet S1 r bv a2 false) sv (l.map bH):=RU hr hA1;obtain⟨S2,hS2⟩:∃S2,S2=irSet S1 r bv a2 false:=⟨_,rfl⟩;rw[←hS2]at ho2 u2 hA2;have hlb:nF b L a=some ((L.getD p [],L.getD q [],()),a2):=by rw[nF,hp];simp only;rw[hq]
    obtain⟨sv',S3,a3,a4,a5⟩:=hA2.push (bytes:=32) (bH (L.getD p [],L.getD q [],())) (by rw[bz];omega);have hlv:bH (L.getD p [],L.getD q [],())=.agg [.str (L.getD p []),.str (L.getD q [])]:=rfl;rw[hlv]at a3;have r1:=hread p (oY hp);have r2:=hread q (oY hq)
    have hmem:∀p:Nat,(p:Int)≤(L.length:Int)-1→L.getD p []∈L:=fun p hp=>by
     have hp':p<L.length:=by omega
     rw[List.getD_eq_getElem?_getD,List.getElem?_eq_getElem hp'];exact List.getElem_mem hp'
    have m1:=hLw _ (hmem p (oY hp));have m2:=hLw _ (hmem q (oY hq));obtain⟨sp,hsp⟩:∃s,s=L.getD p []:=⟨_,rfl⟩;obtain⟨sq,hsq⟩:∃s,s=L.getD q []:=⟨_,rfl⟩;rw[←hsp]at hlb a3 a4 r1 m1;rw[←hsq]at hlb a3 a4 r2 m2;have e:jK b L (k+1) a l=jK b L k a2 (l++[(sp,sq,())]):=by rw[jK,hlb]
    rw[e]at k1 k2;rw[ax];simp -implicitDefEqProofs [f4,h5,h7,h34,h35,hlt,hln,hlen,hwL,u1,u2,bI ho2,bD,r1,r2,aR,dx,ak,cY,dU,aG,a3];refine ih (j+1) a2 (l++[(sp,sq,())]) sv' _ S3 (by omega) (by simp[hlj]) ⟨by simp[f0],by simp[f4]⟩ (by simp[h5]) (by simp[h6]) (by simp[h30]) (by simp[h31]) (by simp) (by simp[h34]) (by simp[hw1]) (by rw[eQ];exact a4) (fun x hx=>?_) k1 k2;rcases bg.1 hx with hx|hx
    ·exact hs x hx
    ·rw[jW]at hx;subst hx;exact⟨m1,m2⟩
def aAw{S0:St}{v bv lv:PV}{N a:Nat}(hN:N≤256){K:List Kt}{Q:Fr→St→Prop} :
  ∀(n i:Nat) (ls:List (List aQ)) (qs:List PV) (sv:PV) (fr:Fr) (S:St),i+n=N→ls.length=i→kK v S0.objs.length fr→fr 6=sv→fr 30=.int .i64 (N:Int)→fr 31=.int .i64 (i:Int) →
  ah S0 1 S sv qs→ii qs ls→(∀l∈ls,l.length≤8∧lD l)→S.objs[S0.objs.length]?=some [bv,.int .i64 (a:Int),.bool true] →
  (∀ls' qs' sv' fr' S',kK v S0.objs.length fr'→fr' 6=sv'→ah S0 1 S' sv' qs'→ii qs' ls'→(∀l∈ls',l.length≤8∧lD l)→S'.objs[S0.objs.length]?=some [bv,.int .i64 (a:Int),.bool true]→ls'.length=N→Ok (aE T2 K fr' S') Q) →
  Ok (aE T2 (.lp vh::.blk 2::K) fr S) Q:=by
 intro n
 induction n with
 |zero=>
  intro i ls qs sv fr S hin hli hF h6 h30 h31 hA hq hs ho k1;have hlt:¬(i:Int)<(N:Int):=by omega
  have hln:¬i<N:=by omega
  rw[ax];simp -implicitDefEqProofs [h30,h31,hlt,hln]
  exact k1 ls qs sv _ S ⟨by simp[hF.f0],by simp[hF.f4]⟩ (by simp[h6]) hA hq hs ho (by omega)
 |succ n ih=>
  intro i ls qs sv fr S hin hli hF h6 h30 h31 hA hq hs ho k1;obtain⟨f0,f4⟩:=hF;have hlt:(i:Int)<(N:Int):=by omega
  have hln:i<N:=by omega
  have u1:∀x,aN T2 232 [.ptr S0.objs.length 0,x] S=some (.int .i64 0,S):=fun x=>fv (CI ho);have hw1:IntKind.i64.wrap ((i:Int)+1)=((i+1:Nat):Int):=by rw[au]<;>omega
  obtain⟨sv',S3,a3,a4,a5⟩:=hA.push (bytes:=24) .nils (by have:=hq.1;omega);rw[ax];simp -implicitDefEqProofs [f4,h30,h31,hlt,hln,u1];rw[ax];simp -implicitDefEqProofs [h6,h30,h31,cY,dU,aG,a3];refine ih (i+1) (ls++[[]]) (qs++[.nils]) sv' _ S3 (by omega) (by simp[hli]) ⟨by simp[f0],by simp[f4]⟩ (by simp) (by simp[h30]) (by simp[hw1]) a4 (hq.push (.inl ⟨rfl,rfl⟩)) (fun l hl=>?_) (by rw[a5];exact ho) k1;rcases bg.1 hl with hl|hl
  ·exact hs l hl
  ·rw[jW]at hl;subst hl;exact⟨by simp,fun x hx=>by simp at hx⟩
def aAx{S0:St}{v bv lv:PV}{b:List UInt8}{L:List Wd}{N:Nat}(hv:ba 1 bv (aI b))(hb:b.length≤67108864)(hN:N≤256)(hL:L.length≤4096)(hLv:ba 1 lv (L.map .str))(hLw:∀s∈L,s.length≤64){K:List Kt}{Q:Fr→St→Prop} :
  ∀(n i a:Nat) (ls:List (List aQ)) (qs:List PV) (sv:PV) (fr:Fr) (S:St),i+n=N→ls.length=i→kK v S0.objs.length fr→fr 5=lv→fr 6=sv→fr 30=.int .i64 (N:Int)→fr 31=.int .i64 (i:Int) →
  ah S0 1 S sv qs→ii qs ls→(∀l∈ls,l.length≤8∧lD l)→S.objs[S0.objs.length]?=some [bv,.int .i64 (a:Int),.bool false] →
  (∀ls' qs' sv' fr' S' a',gY b L n a ls=some (ls',a')→kK v S0.objs.length fr'→fr' 6=sv'→ah S0 1 S' sv' qs'→ii qs' ls'→(∀l∈ls',l.length≤8∧lD l)→S'.objs[S0.objs.length]?=some [bv,.int .i64 (a':Int),.bool false]→ls'.length=N→Ok (aE T2 K fr' S') Q) →
  (gY b L n a ls=none→∀ls' qs' sv' fr' S' (a':Nat),kK v S0.objs.length fr'→fr' 6=sv'→ah S0 1 S' sv' qs'→ii qs' ls'→(∀l∈ls',l.length≤8∧lD l)→S'.objs[S0.objs.length]?=some [bv,.int .i64 (a':Int),.bool true]→ls'.length=N→Ok (aE T2 K fr' S') Q) →
  (gY b L n a ls=none→∀fr' S',aL S0 S'→fr' 2=.nilp→fr' 3=.int .i64 5→Q fr' S') →
  Ok (aE T2 (.lp vh::.blk 2::K) fr S) Q:=by
 intro n
 induction n with
 |zero=>
  intro i a ls qs sv fr S hin hli hF h5 h6 h30 h31 hA hq hs ho k1 k2 k3;have hlt:¬(i:Int)<(N:Int):=by omega
  have hln:¬i<N:=by omega
  rw[ax];simp -implicitDefEqProofs [h30,h31,hlt,hln]
  exact k1 ls qs sv _ S a rfl ⟨by simp[hF.f0],by simp[hF.f4]⟩ (by simp[h6]) hA hq hs ho (by omega)
 |succ n ih=>
  intro i a ls qs sv fr S hin hli hF h5 h6 h30 h31 hA hq hs ho k1 k2 k3;obtain⟨f0,f4⟩:=hF;have hlt:(i:Int)<(N:Int):=by omega
  have hln:i<N:=by omega
  have hr:=(aM.1 ho).1;have hw1:IntKind.i64.wrap ((i:Int)+1)=((i+1:Nat):Int):=by rw[au]<;>omega
  cases hu:dt b a 8 with
  |none=>
   have hno:gY b L (n+1) a ls=none:=by rw[gY,hu]
   have u1:=tH hv hb ho hu;have hA1:ah S0 1 (irSet S S0.objs.length bv a true) sv qs:=hA.irSet (aU _);have ho1:(irSet S S0.objs.length bv a true).objs[S0.objs.length]?=some [bv,.int .i64 (a:Int),.bool true]:=jJ hr;obtain⟨sv',S3,a3,a4,a5⟩:=hA1.push (bytes:=24) .nils (by have:=hq.1;omega);rw[ax];simp -implicitDefEqProofs [f4,h30,h31,hlt,hln,u1];rw[ax];simp -implicitDefEqProofs [h6,h30,h31,cY,dU,aG,a3]
   refine aAw (S0:=S0) (v:=v) (bv:=bv) (lv:=lv) (a:=a) hN n (i+1) (ls++[[]]) (qs++[.nils]) sv' _ S3 (by omega) (by simp[hli]) ⟨by simp[f0],by simp[f4]⟩ (by simp) (by simp[h30]) (by simp[hw1]) a4 (hq.push (.inl ⟨rfl,rfl⟩)) (fun l hl=>?_) (by rw[a5];exact ho1)
    (fun ls' qs' sv2 fr' S' g1 g2 g3 g4 g5 g6 g7=>k2 hno ls' qs' sv2 fr' S' a g1 g2 g3 g4 g5 g6 g7)
   rcases bg.1 hl with hl|hl
   ·exact hs l hl
   ·rw[jW]at hl;subst hl;exact⟨by simp,fun x hx=>by simp at hx⟩
  |some ka=>
   obtain⟨k,a1⟩:=ka;have hk8:=oY hu;have u1:=tG hv hb ho hu;have ho1:(irSet S S0.objs.length bv a1 false).objs[S0.objs.length]?=some [bv,.int .i64 (a1:Int),.bool false]:=jJ hr;have hA1:ah S0 1 (irSet S S0.objs.length bv a1 false) sv qs:=hA.irSet (aU _);rw[ax];simp -implicitDefEqProofs [f4,h30,h31,hlt,hln,u1]
   refine aAv (S0:=S) (r:=S0.objs.length) (v:=v) (bv:=bv) (lv:=lv) (b:=b) (L:=L) (N:=k) (x6:=sv) (x30:=.int .i64 (N:Int)) (x31:=.int .i64 (i:Int)) hr hv hb (by omega) hL hLv hLw k 0 a1 [] .nils _ _ (by omega) rfl ⟨by simp[f0],by simp[f4]⟩ (by simp[h5]) (by simp[h6]) (by simp[h30]) (by simp[h31]) (by simp) (by simp) (by simp)
    (lG 2 (aL.refl _)) (fun x hx=>by simp at hx) (fun l a2 sv2 fr2 S2 hl hF2 g5 g6 g30 g31 g7 hA2 hsh hln2=>?_) (fun hl fr2 S2 a2 d hg g2 g3=>?_)
   ·have hA3:ah S0 1 S2 sv qs:=(hA.irSet (r:=S0.objs.length) (a:=a2) (bad:=false) (bv:=bv) (aU _)).more hA2.grows;have ho2:=RV hr hA2.grows;have hvl:=hA2.isSl (rX l);obtain⟨o1,o2⟩:=hvl.one;obtain⟨sv',S3,a3,a4,a5⟩:=hA3.push (bytes:=24) sv2 (by have:=hq.1;omega);have e:gY b L (n+1) a ls=gY b L n a2 (ls++[l]):=by rw[gY,hu];simp only;rw[hl]
    rw[e]at k1 k2 k3;obtain⟨e0,e4⟩:=hF2;simp -implicitDefEqProofs [g6,g7,g30,g31,cY,dU,aG,o1,o2,a3];refine ih (i+1) a2 (ls++[l]) (qs++[sv2]) sv' _ S3 (by omega) (by simp[hli]) ⟨by simp[e0],by simp[e4]⟩ (by simp[g5]) (by simp) (by simp[g30]) (by simp[hw1]) a4 (hq.push hvl) (fun x hx=>?_) (by rw[a5];exact ho2) k1 k2 k3;rcases bg.1 hx with hx|hx
    ·exact hs x hx
    ·rw[jW]at hx;subst hx;exact⟨by omega,hsh⟩
   ·have hno:gY b L (n+1) a ls=none:=by rw[gY,hu];simp only;rw[hl]
    exact k3 hno fr2 S2 ((da hA.grows (aU _) _).trans hg) g2 g3
end Ps
