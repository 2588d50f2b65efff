/- Plain: a block that is written is read as it was; what is read is written as just those bytes. -/
import Derived.Test.YtpjmpaidcidjgaaGreatDoorAbbKw
import Derived.Test.YtpjmpaidcidjgaaGreatDoorEGKw
set_option linter.defProp false
namespace Ps
set_option linter.unusedSimpArgs false
set_option linter.unusedVariables false
open Go Go.Proofs
def WZ{l:List Sm}:∀(n i:Nat),l.length-i=n→(cE l i=0↔∀j (h:j<l.length),i≤j→cW l j h=0):=by
 intro n
 induction n with
 |zero=>
  intro i hi;rw[cE,dif_neg (by omega)]
  exact⟨fun _ j h hj=>by omega,fun _=>rfl⟩
 |succ n ih=>
  intro i hi;rw[cE,dif_pos (by omega)];by_cases h0:cW l i (by omega)=0
  ·rw[if_pos h0,ih (i+1) (by omega)];constructor
   ·intro k j h hj;by_cases e:j=i
    ·subst e;exact h0
    ·exact k j h (by omega)
   ·intro k j h hj;exact k j h (by omega)
  ·rw[if_neg h0];exact⟨fun e=>absurd e h0,fun k=>absurd (k i (by omega) (aX _)) h0⟩
def CU{l:List Sm}{i:Nat}(h:i<l.length):cW l i h=0↔eu l[i].1 l[i].2=true∧∀h0:0<i,l[i-1].1<l[i].1:=by
 unfold cW
 cases hm:eu l[i].1 l[i].2 with
 |false=>simp
 |true=>
  rw[if_neg (by decide)];by_cases h0:0<i
  ·rw[dif_pos h0];split
   ·rename_i hle;constructor
    ·intro e;cases e
    ·rintro⟨_,k⟩;have:=k h0;omega
   ·rename_i hle;simp only[true_and,true_iff];intro _;omega
  ·rw[dif_neg h0];simp only[true_and,true_iff];intro k;exact absurd k h0
def iX(l:List Sm):Prop:=∀(i:Nat) (h:i<l.length),eu l[i].1 l[i].2=true∧∀h0:0<i,l[i-1].1<l[i].1
def CV{l:List Sm}:cE l 0=0↔iX l:=by
 rw[WZ l.length 0 rfl];constructor
 ·intro k i h;exact(CU h).1 (k i h (bb _))
 ·intro k i h _;exact(CU h).2 (k i h)
def iX.take{l:List Sm}(h:iX l)(k:Nat):iX (l.take k):=by
 intro i hi;have hi':i<l.length:=by simp at hi;omega
 obtain⟨h1,h2⟩:=h i hi';refine⟨by simpa using h1,fun h0=>by simpa using h2 h0⟩
def iX.drop{l:List Sm}(h:iX l)(k:Nat):iX (l.drop k):=by
 intro i hi;have hi':k+i<l.length:=by simp at hi;omega
 obtain⟨h1,h2⟩:=h (k+i) hi';refine⟨by simpa using h1,fun h0=>?_⟩;have:=h2 (by omega);simp only[List.getElem_drop];have e:k+i-1=k+(i-1):=by omega
 simpa[e]using this
def Wa{l:List Sm}(h:iX l)(h0:l≠[])(h1:l.length≤120):dZ l=0:=by
 unfold dZ;rw[if_neg (by have:=List.length_pos_iff.2 h0;omega)];exact CV.2 h
def wN:∀(n:Nat) (l:List Sm),l.length=n→iX l→∀c∈bi l,dZ c=0:=by
 intro n
 induction n using Nat.strongRecOn with
 |_ n ih=>
  intro l hn h c hc;rw[bi]at hc;split at hc
  ·cases hc
  ·rename_i hl;have:=List.length_pos_iff.2 hl;rcases cQ.1 hc with rfl|hc
   ·exact Wa (h.take 120) (by intro e;have:=congrArg List.length e;rw[fS,cO]at this;omega) (by rw[fS];omega)
   ·exact ih (l.drop 120).length (by rw[pL];omega) _ rfl (h.drop 120) c hc
def wO:∀(n:Nat) (l:List Sm),l.length=n→(bi l).length=(l.length+119)/120:=by
 intro n
 induction n using Nat.strongRecOn with
 |_ n ih=>
  intro l hn;rw[bi];split
  ·rename_i hl;subst hl;rfl
  ·rename_i hl;have:=List.length_pos_iff.2 hl;rw[bE,ih (l.drop 120).length (by rw[pL];omega) (l.drop 120) rfl];simp;omega
structure pj(l:List bf):Prop where
 len:l.length≤256
 sum:bZ l≤65536
 ix:df (l.map (·.1))=0
 ser:∀s∈l,s.2≠[]∧iX s.2
def Wb{l:List bf}:∀(n i:Nat),l.length-i=n→fZ l i=0→∀j (h:j<l.length),i≤j→l[j].2≠[]∧cE l[j].2 0=0:=by
 intro n
 induction n with
 |zero=>intro i hi _ j h hij;omega
 |succ n ih=>
  intro i hi h j hj hij;have hil:i<l.length:=by omega
  rw[fZ,dif_pos hil]at h;split at h
  ·cases h
  ·rename_i h0;split at h
   ·rename_i hz;by_cases e:i=j
    ·subst e;exact⟨fun e=>h0 (by rw[e];rfl),hz⟩
    ·exact ih (i+1) (by omega) h j hj (by omega)
   ·rename_i hz;exact absurd h hz
def CW{l:List bf}(h:dU l=0):pj l:=by
 unfold dU at h;split at h
 ·cases h
 rename_i h1;split at h
 ·rename_i h2;exact absurd h h2
 rename_i h2;refine⟨by omega,by omega,by omega,fun s hs=>?_⟩;obtain⟨i,hi,rfl⟩:=eC hs;obtain⟨a,b⟩:=Wb l.length 0 (by omega) h i hi (bb _);exact⟨a,CV.1 b⟩
def CX{c:List Sm}(h:dZ c=0):(cS c).length≤2140:=by
 have hk:=wL h;have h1:=Bw hk (c.length-1);have h2:=hk.len;unfold cS;rw[sX];omega
def CY{x:List UInt8}(h:x.length≤1000000000):(cK x).length≤x.length+9:=by
 have:=dK (n:=x.length) (by omega);simp only[cK,aZ];omega
theorem CZ:∀(m:List (List Sm)),(∀c∈m,dZ c=0)→(m.flatMap fun c=>cK (cS c)).length≤2149*m.length
 | [],_=>by simp
 |c::m,h=>by
  have h1:=CZ m fun c hc=>h c (by simp[hc]);have h2:=CX (h c (by simp));have h3:=CY (x:=cS c) (by omega);simp only[dC,aZ,bE];omega
def Ca{s:bf}(h:iX s.2)(hl:s.2.length≤65536):(dA s).length≤9+2149*((s.2.length+119)/120):=by
 have h1:=CZ (bi s.2) (wN _ _ rfl h);have h2:=wO _ s.2 rfl;have h3:=dK (n:=(bi s.2).length) (by omega);simp only[dA,aZ];rw[h2]at h1 h3;rw[h2];omega
theorem Cb:∀(l:List bf),(∀s∈l,iX s.2)→bZ l≤65536→(l.flatMap dA).length≤2158*l.length+18*bZ l
 | [],_,_=>by simp
 |s::l,h,ht=>by
  have e:bZ (s::l)=s.2.length+bZ l:=by simp[bZ]
  rw[e]at ht ⊢;have h1:=Cb l (fun c hc=>h c (by simp[hc])) (by omega);have h2:=Ca (h s (by simp)) (by omega);simp only[dC,aZ,bE];have h3:2149*((s.2.length+119)/120)≤2149+18*s.2.length:=by omega
  omega
def Cc{ls:List (List aT)}(h:fC ls):(dP ls).length≤400000:=by
 have h1:=kp h;have h2:=so h ls h.set;have h3:=h.len;have h4:=dK (n:=(bY ls).length) (by omega);have h5:=dK (n:=ls.length) (by omega)
 have h6:∀l:List Wd,(∀w∈l,w.length≤64)→(l.flatMap dD).length≤73*l.length:=by
  intro l
  induction l with
  |nil=>intro _;simp
  |cons a l ih=>
   intro h;have h1:=ih fun w hw=>h w (by simp[hw]);have h2:=h a (by simp);have h3:=dK (n:=a.length) (by omega);simp only[dC,aZ,bE,dD];omega
 have h7:=h6 (bY ls) fun w hw=>sk h (mL.1 hw);rw[sn];simp only[aZ];omega
def Cd{l:List bf}(h:pj l):(fD l).length≤3000000:=by
 have h1:=Cc (sj h.ix);have h2:=CY (x:=dP (l.map (·.1))) (by omega);have h3:=Cb l (fun s hs=>(h.ser s hs).2) h.sum;have h4:=h.len;have h5:=h.sum;simp only[fD,aZ];have:fU.length=4:=rfl;omega
def wP{α:Type}(f:α→List UInt8)(l:List α)(i:Nat):((l.take i).flatMap f).length≤(l.flatMap f).length:=by
 conv=>rhs;rw[←jx i l,List.flatMap_append,aZ]
 omega
end Ps
set_option linter.defProp false
namespace Ps
set_option linter.unusedSimpArgs false
set_option linter.unusedVariables false
open Go Go.Proofs
structure kq(S0 S:St)(ob o8:Nat)(p:List UInt8):Prop where
 wt:nq S0 S ob p
 ne:o8≠ob
 fn:S.objs[o8]?=some [.fn 261 [.ptr ob 0]]
def Wc{S0:St}{ob o8:Nat}{cs:List (List Sm)}{cv:PV}(hv:se cv cs)(hcs:∀c∈cs,dZ c=0)(hl:cs.length≤4000000000){p:List UInt8}(hp:p.length+(cs.flatMap fun c=>cK (cS c)).length≤50000000){K:List Kt}{Q:Fr→St→Prop}{fr:Fr}{S:St}{o1 o2 o3:PV}
  (h49:fr 49=cv)(h50:fr 50=.int .i64 (cs.length:Int))(h51:fr 51=.int .i64 0)(h7:fr 7=.ptr ob 0)(h8:fr 8=.ptr o8 0)(h9:fr 9=.fn 262 [.ptr o8 0,.ptr ob 0])(h36:fr 36=o1)(h37:fr 37=o2)(h38:fr 38=o3)(hw:kq S0 S ob o8 p)
  (kk:∀fr' S',fr' 7=.ptr ob 0→fr' 8=.ptr o8 0→fr' 9=.fn 262 [.ptr o8 0,.ptr ob 0]→fr' 36=o1→fr' 37=o2→fr' 38=o3→kq S0 S' ob o8 (p++cs.flatMap fun c=>cK (cS c))→Ok (aE T1 K fr' S') Q) :
  Ok (aE T1 (.lp wu::.blk 2::K) fr S) Q:=by
 obtain⟨es,hes,hel,hee⟩:=hv
 refine db cs.length (fun i fr' S'=>fr' 49=cv∧fr' 50=.int .i64 (cs.length:Int)∧fr' 51=.int .i64 (i:Int)∧fr' 7=.ptr ob 0∧fr' 8=.ptr o8 0∧fr' 9=.fn 262 [.ptr o8 0,.ptr ob 0]∧fr' 36=o1∧fr' 37=o2∧fr' 38=o3∧kq S0 S' ob o8 (p++(cs.take i).flatMap fun c=>cK (cS c))) ?_ ?_ 0 (bb _) _ _
  ⟨h49,h50,by simpa using h51,h7,h8,h9,h36,h37,h38,by simpa using hw⟩
 ·rintro i fr' S' hi ⟨g49,g50,g51,g7,g8,g9,g36,g37,g38,gw,gne,g8o⟩ k;have hie:i<es.length:=by omega
  have hsl:=hee i hi hie;have hg:=hes.reads.get i hie .i64;rw[hsl.one.2]at hg;obtain⟨bv,e1,e2⟩:=Vl hsl.reads (hcs _ (cr hi)) S';have e1:=gh e1;have hpre:=wP (fun c=>cK (cS c)) cs (i+1)
  have htk:(cs.take (i+1)).flatMap (fun c=>cK (cS c))=(cs.take i).flatMap (fun c=>cK (cS c))++cK (cS cs[i]):=by
   rw[List.take_succ_eq_append_getElem hi,List.flatMap_append];simp
  rw[htk,aZ]at hpre;have hpl:(cS cs[i]).length≤(cK (cS cs[i])).length:=by simp only[cK,aZ];omega
  obtain⟨S2,d1,d2,d3,d4⟩:=CS gw (by rw[aZ];omega) g8o gne e2.isl;have hw1:IntKind.i64.wrap ((i:Int)+1)=((i+1:Nat):Int):=by rw[au]<;>omega
  have hlt:(i:Int)<(cs.length:Int):=by omega
  rw[aV];simp -implicitDefEqProofs [g49,g50,g51,g7,g8,g9,hg,hlt,hi,bM,e1,d1];refine k _ _ ⟨by simp[g49],by simp[g50],by simp[hw1],by simp[g7],by simp[g8],by simp[g9],by simp[g36],by simp[g37],by simp[g38],?_,gne,by rw[d4 _ gne];exact g8o⟩;rw[htk,←List.append_assoc];exact d2
 ·rintro fr' S' ⟨g49,g50,g51,g7,g8,g9,g36,g37,g38,gw⟩;rw[List.take_length]at gw;rw[aV];simp -implicitDefEqProofs [g50,g51];exact kk _ _ (by simp[g7]) (by simp[g8]) (by simp[g9]) (by simp[g36]) (by simp[g37]) (by simp[g38]) gw
def We{S0:St}{ob o8:Nat}{l:List bf}(hb:pj l){v:PV}{es:List PV}(hv:bW 2 v es)(hlen:es.length=l.length)(hel:∀(i:Nat)(h:i<l.length)(h':i<es.length),iT es[i] l[i]){p:List UInt8}(hp:p.length+(l.flatMap dA).length≤50000000){K:List Kt}{Q:Fr→St→Prop}{fr:Fr}{S:St}
  (h36:fr 36=v)(h37:fr 37=.int .i64 (l.length:Int))(h38:fr 38=.int .i64 0)(h7:fr 7=.ptr ob 0)(h8:fr 8=.ptr o8 0)(h9:fr 9=.fn 262 [.ptr o8 0,.ptr ob 0])(hw:kq S0 S ob o8 p)
  (kk:∀fr' S',fr' 7=.ptr ob 0→kq S0 S' ob o8 (p++l.flatMap dA)→Ok (aE T1 K fr' S') Q) :
  Ok (aE T1 (.lp wv::.blk 0::K) fr S) Q:=by
 refine db l.length (fun i fr' S'=>fr' 36=v∧fr' 37=.int .i64 (l.length:Int)∧fr' 38=.int .i64 (i:Int)∧fr' 7=.ptr ob 0∧fr' 8=.ptr o8 0∧fr' 9=.fn 262 [.ptr o8 0,.ptr ob 0]∧kq S0 S' ob o8 (p++(l.take i).flatMap dA)) ?_ ?_ 0 (bb _) _ _
  ⟨h36,h37,by simpa using h38,h7,h8,h9,by simpa using hw⟩
 ·rintro i fr' S' hi ⟨g36,g37,g38,g7,g8,g9,gw,gne,g8o⟩ k;have hie:i<es.length:=by omega
  obtain⟨lv,sv,he,hlv,hsv⟩:=hel i hi hie;have hg:=hv.get i hie .i64;have hc0:(PV.agg [lv,sv]).cells=[lv,sv]:=rfl;rw[he,hc0]at hg;obtain⟨o1,o2⟩:=hlv.one;obtain⟨s1,s2⟩:=hsv.one
  have hsl:l[i].2.length≤65536:=by
   have:l[i].2.length≤bZ l:=wH (List.mem_map.2 ⟨l[i],cr hi,rfl⟩);have:=hb.sum;omega
  obtain⟨hne0,hri⟩:=hb.ser _ (cr hi);have hcl:=wO _ l[i].2 rfl;obtain⟨S1,hS1⟩:∃S1:St,S1=⟨S'.objs++[[lv,sv]],S'.tips⟩:=⟨_,rfl⟩;have hS1l:∀j x,S'.objs[j]?=some x→S1.objs[j]?=some x:=fun j x h=>by rw[hS1];simp only;rw[bF (aO.1 h).1];exact h
  have gw1:nq S0 S1 ob (p++(l.take i).flatMap dA):=by
   obtain⟨a,bv,b,c⟩:=gw;refine⟨a,bv,hS1l _ _ b,?_⟩;rw[hS1];exact c.objs _
  obtain⟨cv,c1,c2⟩:=Vo hsv.isl (by omega) S1;have c1:=gh c1
  have htk:(l.take (i+1)).flatMap dA=(l.take i).flatMap dA++dA l[i]:=by
   rw[List.take_succ_eq_append_getElem hi,List.flatMap_append];simp
  have hpre:=wP dA l (i+1);rw[htk,aZ]at hpre;have hsb:(dA l[i]).length=(bI (bi l[i].2).length).length+((bi l[i].2).flatMap fun c=>cK (cS c)).length:=by simp only[dA,aZ]
  obtain⟨S2,d1,d2,d3,d4⟩:=CR gw1 (by rw[aZ];omega) (n:=(bi l[i].2).length) (by omega);have h8s:S2.objs[o8]?=some [.fn 261 [.ptr ob 0]]:=by rw[d4 _ gne];exact hS1l _ _ g8o
  have hcvl:dc false cv=some (.int .i64 ((bi l[i].2).length:Int)):=by
   obtain⟨qs,q1,q2,_⟩:=c2;rw[q1.len,q2]
  have hw1:IntKind.i64.wrap ((i:Int)+1)=((i+1:Nat):Int):=by have:=hb.len;rw[au]<;>omega
  have hlt:(i:Int)<(l.length:Int):=by omega
  have hn1:S1.objs[S'.objs.length]?=some [lv,sv]:=by rw[hS1];simp
  have h8s1:=hS1l _ _ g8o;rw[aV];simp -implicitDefEqProofs [g36,g37,g38,g7,g8,g9,hg,hlt,hi,bM,fo,o1,o2,s1,s2,hc0,aH,cj,bK,←hS1,dM hn1,c1,dM h8s1,hcvl,d1];refine Wc c2 (wN _ _ rfl hri) (by omega) (p:=p++(l.take i).flatMap dA++bI (bi l[i].2).length) (by simp only[aZ]at hpre ⊢;omega) (o1:=v) (o2:=.int .i64 (l.length:Int)) (o3:=.int .i64 (i:Int)) (by simp) (by simp) (by simp) (by simp[g7]) (by simp[g8]) (by simp[g9]) (by simp[g36]) (by simp[g37]) (by simp[g38]) ⟨d2,gne,h8s⟩ (fun fr2 S3 e7 e8 e9 e36 e37 e38 ew=>?_);simp -implicitDefEqProofs [e38];refine k _ _ ⟨by simp[e36],by simp[e37],by simp[hw1],by simp[e7],by simp[e8],by simp[e9],?_⟩
  have e:p++(l.take (i+1)).flatMap dA=p++(l.take i).flatMap dA++bI (bi l[i].2).length++(bi l[i].2).flatMap fun c=>cK (cS c):=by
   rw[htk];simp[dA]
  rw[e];exact ew
 ·rintro fr' S' ⟨g36,g37,g38,g7,g8,g9,gw⟩;rw[List.take_length]at gw;rw[aV];simp -implicitDefEqProofs [g37,g38];exact kk _ _ (by simp[g7]) gw
end Ps
set_option linter.defProp false
namespace Ps
set_option linter.unusedSimpArgs false
set_option linter.unusedVariables false
open Go Go.Proofs
def gc.more{S S2:St}{p:PV}{ls:List (List aT)}(h:gc S p ls)(hg:aN S S2):gc S2 p ls:=by
 obtain⟨ox,om,n0,sv,qs,kv,h1,h2,h3,h4,h5,h6⟩:=h.at_;obtain⟨o,t,rfl⟩:=hg;refine⟨ox,om,n0,sv,qs,kv,h1,h2,?_,?_,h5.more _ t rfl,h6⟩
 ·simp only;rw[bF (aO.1 h3).1];exact h3
 ·simp only;rw[bF (aO.1 h4).1];exact h4
def sq(l:List bf):Prop:=∀s∈l,(s.1.length≤maxLen∧∀x∈s.1,x.1.length≤maxLen)∧s.2.length≤4000000000
def Ce:T1.fn 155=some (.code z53):=rfl
def Wf{l:List bf}{v:PV}(hv:eK v l)(hb:sq l)(hN:l.length≤4000000000)(hz:dU l≠0)(S:St):aM T1 155 [v] S=some (.tup [.nils,.int .i64 (dU l)],S):=by
 have hck:=fun S=>gh (wI hv hb hN S);have hc:(((dU l:Nat):Int) != 0)=true:=by simpa using hz
 refine bP Ce rfl ?_;simp -implicitDefEqProofs [z53,hck,hc];exact eR (aN.refl S) rfl
def Wg{l:List bf}{v:PV}(hv:eK v l)(hb:sq l)(hz:dU l=0)(S:St):aM T1 155 [v] S=some (.tup [.sl none (aI (fb l)) [],.int .i64 0],S):=by
 have hk:=CW hz;have hlen:=hk.len;have hck:=fun S=>gh (wI hv hb (by omega) S);rw[hz]at hck;have hck:∀S,aM T1 64 [v] S=some (.int .i64 0,S):=hck;obtain⟨es,hes,hel,hee⟩:=id hv;have hvl:=hes.len;rw[hel]at hvl;obtain⟨v',s1,s2⟩:=BX hv (by omega) S;have s1:=gh s1;obtain⟨w1,w2⟩:=Bk s2 (fun x hx=>by obtain⟨s,hs,rfl⟩:=List.mem_map.1 hx;exact(hb s hs).1) (by simp;unfold maxLen;omega) S;obtain⟨S1,n1,n2,n3⟩:=w2 hk.ix;have n1:=gh n1;have hxo:=sj hk.ix;have hS1:S.objs.length≤S1.objs.length∧S.tips.length≤S1.tips.length:=by obtain⟨o,t,rfl⟩:=n2;simp
 obtain⟨Sx,hSx⟩:∃Sx:St,Sx=⟨S1.objs++[[.sl (some (S1.tips.length,4)) (aI fU) []],[.fn 261 [.ptr S1.objs.length 0]]],S1.tips++[(4,1)]⟩:=⟨_,rfl⟩;have hgx:aN S1 Sx:=⟨[[.sl (some (S1.tips.length,4)) (aI fU) []],[.fn 261 [.ptr S1.objs.length 0]]],[(4,1)],hSx⟩;have hob:Sx.objs[S1.objs.length]?=some [.sl (some (S1.tips.length,4)) (aI fU) []]:=by rw[hSx];simp
 have ho8:Sx.objs[S1.objs.length+1]?=some [.fn 261 [.ptr S1.objs.length 0]]:=by rw[hSx];simp
 have hwx:kq S Sx S1.objs.length (S1.objs.length+1) fU:=⟨⟨hS1.1,_,hob,n2.trans hgx,.inr ⟨S1.tips.length,hS1.2,rfl,by rw[hSx];simp;rfl⟩⟩,by omega,ho8⟩;have hby:=WU (n3.more hgx) hxo;have hbl:=Cd hk;have hbe:(fD l).length=fU.length+(cK (dP (l.map (·.1)))).length+(l.flatMap dA).length:=by simp only[fD,aZ]
 have hil:=Cc hxo;obtain⟨S3,p1,p2,p3,p4⟩:=CS (x:=dP (l.map (·.1))) hwx.wt (by have:fU.length=4:=rfl;omega) ho8 hwx.ne (pZ _).isl;have hw3:kq S S3 S1.objs.length (S1.objs.length+1) (fU++cK (dP (l.map (·.1)))):=⟨p2,hwx.ne,by rw[p4 _ hwx.ne];exact ho8⟩;have hmg:aI fU=[.int .u8 71,.int .u8 66,.int .u8 75,.int .u8 49]:=rfl;rw[hmg]at hSx
 have main:∀Q:Fr→St→Prop,(∀fr S' bv,ad S 1 S' bv (aI (fb l))→fr 2=bv→fr 3=.int .i64 0→Q fr S')→Ok (aE T1 [.code z53.body] (bg [v]) S) Q:=by
  intro Q hQ;simp -implicitDefEqProofs [z53,hck,s1,n1,aH,cA,cc,dQ,cj,bK,←hSx,hby,p1,hvl];refine We (S0:=S) (ob:=S1.objs.length) (o8:=S1.objs.length+1) (p:=fU++cK (dP (l.map (·.1)))) hk hes.reads hel hee (by simp only[aZ];omega) (by simp) (by simp) (by simp) (by simp) (by simp) (by simp) hw3 (fun fr' S4 g7 gw=>?_);obtain⟨⟨_,bv,ho4,ha4⟩,_,_⟩:=gw;have ha4:ad S 1 S4 bv (aI (fD l)):=ha4;have hs4:=WY (b:=fD l) (ha4.isSl (iE _)).reads (by omega) S4;have hs4:ck (aM T1) .keep 161 [bv] S4=some (.sl none (aI (iW (fD l))) [],S4):=Bj hs4;obtain⟨v2,S5,a1,a2,a3⟩:=ha4.app (bytes:=1) (aI (iW (fD l))) (by rw[bN,bN];have:(iW (fD l)).length=4:=rfl;omega);have hap:=((pZ (iW (fD l))).isl).appdS (S:=S4);simp -implicitDefEqProofs [g7,dM ho4,bM,hs4,hap,a1];refine hQ _ _ v2 ?_ (by simp) (by simp);rw[fb,gF];exact a2
 obtain⟨r,S',h1,h2,h3⟩:=gt (R:=fun r S'=>r=.tup [.sl none (aI (fb l)) [],.int .i64 0]∧S'=S) Ce rfl (main _ (fun fr S' bv ha f2 f3=>by
  refine⟨[bv,.int .i64 0],by simp[z53,bh,fN,f2,f3],?_⟩;have hfree:PV.freeL (aI (fb l))=true:=gv _ (fun _=>rfl) _;have hfrz:PV.frzL (aI (fb l))=aI (fb l):=gS _ (fun _=>rfl) _;have hne:aI (fb l)≠[]:=by simp[fb,fD,fU,aI]
  obtain⟨id,e⟩:∃id,bv=.sl (some (id,(aI (fb l)).length)) (aI (fb l)) []:=by
   rcases ha.acc with⟨_,e⟩|⟨id,_,e,_⟩
   ·exact absurd e hne
   ·exact⟨id,e⟩
  have hf:ak false S S' (.tup [bv,.int .i64 0])=(.tup [.sl none (aI (fb l)) [],.int .i64 0],S):=by
   rw[eR ha.grows (by rw[e];simp[PV.free,PV.freeL,hfree]),e];simp[PV.frz,PV.frzL,hfrz]
  exact⟨congrArg Prod.fst hf,congrArg Prod.snd hf⟩))
 subst h2 h3;exact h1
end Ps
set_option linter.defProp false
namespace Ps
set_option linter.unusedSimpArgs false
set_option linter.unusedVariables false
open Go Go.Proofs
set_option maxRecDepth 100000
def qr(qs:List PV)(ls:List (List aT)):Prop:=qs.length=ls.length∧∀(i:Nat) (h:i<ls.length) (h':i<qs.length),cF 2 qs[i] (ls[i].map ac)
def qr.push{qs:List PV}{ls:List (List aT)}(h:qr qs ls){v:PV}{l:List aT}(hv:cF 2 v (l.map ac)):qr (qs++[v]) (ls++[l]):=by
 refine⟨by simp[h.1],fun i h1 h2=>?_⟩;simp only[aZ,bE,cO]at h1 h2;by_cases hi:i<qs.length
 ·rw[List.getElem_append_left hi];have hl:i<ls.length:=by have:=h.1;omega
  have:=h.2 i hl hi
  rwa [List.getElem_append_left hl]
 ·have e:i=qs.length:=by omega
  subst e;rw[List.getElem_append_right (by omega),List.getElem_append_right (by have:=h.1;omega)];simpa[h.1]using hv
def qr.cells{qs:List PV}{ls:List (List aT)}(h:qr qs ls):∀e∈qs,e.cells.length=1:=by
 intro e he;obtain⟨i,hi,rfl⟩:=eC he;rw[(h.2 i (by have:=h.1;omega) hi).one.2];rfl
end Ps
namespace Ps
set_option linter.unusedSimpArgs false
set_option linter.unusedVariables false
open Go Go.Proofs
set_option maxRecDepth 100000
end Ps
set_option linter.defProp false
namespace Ps
set_option linter.unusedSimpArgs false
set_option linter.unusedVariables false
open Go Go.Proofs
set_option maxRecDepth 100000
def yZ(pv:PV)(pss:List (List ia)):Prop:=∃es,cF 1 pv es∧es.length=pss.length∧∀(i:Nat) (h:i<pss.length) (h':i<es.length),∃qs,cF 4 es[i] qs∧jm qs pss[i]
structure ya(S:St)(xb:Nat)(ls:List (List aT))(pss:List (List ia)):Prop where
 at_:∃ix pv,S.objs[xb]?=some [.ptr ix 0,pv]∧gc S (.ptr ix 0) ls∧yZ pv pss
def ya.more{S S2:St}{xb:Nat}{ls:List (List aT)}{pss:List (List ia)}(h:ya S xb ls pss)(hg:aN S S2):ya S2 xb ls pss:=by
 obtain⟨ix,pv,h1,h2,h3⟩:=h.at_;exact⟨ix,pv,hg.get h1,h2.more hg,h3⟩
end Ps
namespace Ps
set_option linter.unusedSimpArgs false
set_option linter.unusedVariables false
open Go Go.Proofs
set_option maxRecDepth 100000
end Ps
set_option linter.defProp false
namespace Ps
set_option linter.unusedSimpArgs false
set_option linter.unusedVariables false
open Go Go.Proofs
set_option maxRecDepth 100000
def iT.cells {v:PV} {s:bf} (h:iT v s):v.cells.length=2:=by obtain⟨a,b,rfl,_⟩:=h;rfl
def iT.free{v:PV}{s:bf}(h:iT v s):v.free=true:=by
 obtain⟨a,b,rfl,h1,h2⟩:=h;simp[PV.free,PV.freeL,h1.free,h2.free]
def iT.frz{v:PV}{s:bf}(h:iT v s):v.frz=v:=by
 obtain⟨a,b,rfl,h1,h2⟩:=h;simp[PV.frz,PV.frzL,h1.frz,h2.frz]
end Ps
namespace Ps
set_option linter.unusedSimpArgs false
set_option linter.unusedVariables false
open Go Go.Proofs
set_option maxRecDepth 100000
end Ps
set_option linter.defProp false
namespace Ps
set_option linter.unusedSimpArgs false
set_option linter.unusedVariables false
open Go Go.Proofs
set_option maxRecDepth 100000
def gc.set{S:St}{p:PV}{ls:List (List aT)}(h:gc S p ls){i:Nat}{x y:List PV}(hy:S.objs[i]?=some y)(h1:∀sv om,y≠[sv,.map om])(h2:∀kv,y≠ca kv):gc ⟨S.objs.set i x,S.tips⟩ p ls:=by
 obtain⟨ox,om,n0,sv,qs,kv,k1,k2,k3,k4,k5,k6⟩:=h.at_;have e1:i≠ox:=fun e=>by subst e;rw[hy]at k3;exact h1 _ _ (gD k3)
 have e2:i≠om:=fun e=>by subst e;rw[hy]at k4;exact h2 _ (gD k4)
 exact⟨ox,om,n0,sv,qs,kv,k1,k2,by simp only;rw[bn e1];exact k3,by simp only;rw[bn e2];exact k4,k5.more _ [] (by simp),k6⟩
end Ps
set_option linter.defProp false
namespace Ps
set_option linter.unusedSimpArgs false
set_option linter.unusedVariables false
open Go Go.Proofs
set_option maxRecDepth 100000
def yZ.le{pv:PV}{pss:List (List ia)}(h:yZ pv pss):∀ps∈pss,∀p∈ps,p.2.length≤120:=by
 obtain⟨es,_,h1,h2⟩:=h;intro ps hps p hp;obtain⟨i,hi,rfl⟩:=eC hps;obtain⟨qs,_,hq⟩:=h2 i hi (by omega);obtain⟨j,hj,rfl⟩:=eC hp;obtain⟨bv,_,_,hd,_⟩:=hq.2 j (by have:=hq.1;omega) hj;exact(YC hd).2
end Ps
namespace Ps
set_option linter.unusedSimpArgs false
set_option linter.unusedVariables false
open Go
end Ps
namespace Ps
set_option linter.unusedSimpArgs false
set_option linter.unusedVariables false
open Go
end Ps
namespace Ps
set_option linter.unusedSimpArgs false
set_option linter.unusedVariables false
open Go
end Ps
