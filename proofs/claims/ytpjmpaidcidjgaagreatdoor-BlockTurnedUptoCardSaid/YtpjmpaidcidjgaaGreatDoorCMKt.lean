/- The laws' W code is the program's. -/
import Derived.Test.YtpjmpaidcidjgaaGreatDoorAbbKt
import Derived.Test.YtpjmpaidcidjgaaGreatDoorBWKt
import Derived.Test.YtpjmpaidcidjgaaGreatDoorSimVKt
import Derived.Test.YtpjmpaidcidjgaaGreatDoorTieXKt
set_option linter.defProp false
namespace Ps
set_option linter.unusedSimpArgs false
set_option linter.unusedVariables false
open Go Go.Proofs
structure kR(S0 S:St)(ob o8:Nat)(p:List UInt8):Prop where
 wt:nD S0 S ob p
 ne:o8≠ob
 fn:S.objs[o8]?=some [.fn 261 [.ptr ob 0]]
def Tm{S0:St}{ob o8:Nat}{cs:List (List Sm)}{cv:PV}(hv:rB cv cs)(hcs:∀c∈cs,eS c=0)(hl:cs.length≤4000000000){p:List UInt8}(hp:p.length+(cs.flatMap fun c=>dP (eT c)).length≤50000000){K:List Kt}{Q:Fr→St→Prop}{fr:Fr}{S:St}{o1 o2 o3:PV}
  (h49:fr 49=cv)(h50:fr 50=.int .i64 (cs.length:Int))(h51:fr 51=.int .i64 0)(h7:fr 7=.ptr ob 0)(h8:fr 8=.ptr o8 0)(h9:fr 9=.fn 262 [.ptr o8 0,.ptr ob 0])(h36:fr 36=o1)(h37:fr 37=o2)(h38:fr 38=o3)(hw:kR S0 S ob o8 p)
  (kk:∀fr' S',fr' 7=.ptr ob 0→fr' 8=.ptr o8 0→fr' 9=.fn 262 [.ptr o8 0,.ptr ob 0]→fr' 36=o1→fr' 37=o2→fr' 38=o3→kR S0 S' ob o8 (p++cs.flatMap fun c=>dP (eT c))→Ok (aF T1 K fr' S') Q) :
  Ok (aF T1 (.lp vn::.blk 2::K) fr S) Q:=by
 obtain⟨es,hes,hel,hee⟩:=hv
 refine jp cs.length (fun i fr' S'=>fr' 49=cv∧fr' 50=.int .i64 (cs.length:Int)∧fr' 51=.int .i64 (i:Int)∧fr' 7=.ptr ob 0∧fr' 8=.ptr o8 0∧fr' 9=.fn 262 [.ptr o8 0,.ptr ob 0]∧fr' 36=o1∧fr' 37=o2∧fr' 38=o3∧kR S0 S' ob o8 (p++(cs.take i).flatMap fun c=>dP (eT c))) ?_ ?_ 0 (bh _) _ _
  ⟨h49,h50,by simpa using h51,h7,h8,h9,h36,h37,h38,by simpa using hw⟩
 ·rintro i fr' S' hi ⟨g49,g50,g51,g7,g8,g9,g36,g37,g38,gw,gne,g8o⟩ k;have hie:i<es.length:=by omega
  have hsl:=hee i hi hie;have hg:=hes.reads.get i hie .i64;rw[hsl.one.2]at hg;obtain⟨bv,e1,e2⟩:=Sl hsl.reads (hcs _ (fK hi)) S';have e1:=jf e1;have hpre:=Av (fun c=>dP (eT c)) cs (i+1)
  have htk:(cs.take (i+1)).flatMap (fun c=>dP (eT c))=(cs.take i).flatMap (fun c=>dP (eT c))++dP (eT cs[i]):=by
   rw[List.take_succ_eq_append_getElem hi,lQ];simp
  rw[htk,ak]at hpre;have hpl:(eT cs[i]).length≤(dP (eT cs[i])).length:=by simp only[dP,ak];omega
  obtain⟨S2,d1,d2,d3,d4⟩:=Ah gw (by rw[ak];omega) g8o gne e2.isl;have hw1:IntKind.i64.wrap ((i:Int)+1)=((i+1:Nat):Int):=by rw[bT]<;>omega
  have hlt:(i:Int)<(cs.length:Int):=by omega
  rw[bH];simp -implicitDefEqProofs [g49,g50,g51,g7,g8,g9,hg,hlt,hi,dD,e1,d1];refine k _ _ ⟨by simp[g49],by simp[g50],by simp[hw1],by simp[g7],by simp[g8],by simp[g9],by simp[g36],by simp[g37],by simp[g38],?_,gne,by rw[d4 _ gne];exact g8o⟩;rw[htk,←eh];exact d2
 ·rintro fr' S' ⟨g49,g50,g51,g7,g8,g9,g36,g37,g38,gw⟩;rw[il]at gw;rw[bH];simp -implicitDefEqProofs [g50,g51];exact kk _ _ (by simp[g7]) (by simp[g8]) (by simp[g9]) (by simp[g36]) (by simp[g37]) (by simp[g38]) gw
def Tn{S0:St}{ob o8:Nat}{l:List cA}(hb:ug l){v:PV}{es:List PV}(hv:cn 2 v es)(hlen:es.length=l.length)(hel:∀(i:Nat)(h:i<l.length)(h':i<es.length),iK es[i] l[i]){p:List UInt8}(hp:p.length+(l.flatMap eJ).length≤50000000){K:List Kt}{Q:Fr→St→Prop}{fr:Fr}{S:St}
  (h36:fr 36=v)(h37:fr 37=.int .i64 (l.length:Int))(h38:fr 38=.int .i64 0)(h7:fr 7=.ptr ob 0)(h8:fr 8=.ptr o8 0)(h9:fr 9=.fn 262 [.ptr o8 0,.ptr ob 0])(hw:kR S0 S ob o8 p)
  (kk:∀fr' S',fr' 7=.ptr ob 0→kR S0 S' ob o8 (p++l.flatMap eJ)→Ok (aF T1 K fr' S') Q) :
  Ok (aF T1 (.lp vp::.blk 0::K) fr S) Q:=by
 refine jp l.length (fun i fr' S'=>fr' 36=v∧fr' 37=.int .i64 (l.length:Int)∧fr' 38=.int .i64 (i:Int)∧fr' 7=.ptr ob 0∧fr' 8=.ptr o8 0∧fr' 9=.fn 262 [.ptr o8 0,.ptr ob 0]∧kR S0 S' ob o8 (p++(l.take i).flatMap eJ)) ?_ ?_ 0 (bh _) _ _
  ⟨h36,h37,by simpa using h38,h7,h8,h9,by simpa using hw⟩
 ·rintro i fr' S' hi ⟨g36,g37,g38,g7,g8,g9,gw,gne,g8o⟩ k;have hie:i<es.length:=by omega
  obtain⟨lv,sv,he,hlv,hsv⟩:=hel i hi hie;have hg:=hv.get i hie .i64;have hc0:(PV.agg [lv,sv]).cells=[lv,sv]:=rfl;rw[he,hc0]at hg;obtain⟨o1,o2⟩:=hlv.one;obtain⟨s1,s2⟩:=hsv.one
  have hsl:l[i].2.length≤65536:=by
   have:l[i].2.length≤cV l:=uO (List.mem_map.2 ⟨l[i],fK hi,rfl⟩);have:=hb.sum;omega
  obtain⟨hne0,hri⟩:=hb.ser _ (fK hi);have hcl:=Am _ l[i].2 rfl;obtain⟨S1,hS1⟩:∃S1:St,S1=⟨S'.objs++[[lv,sv]],S'.tips⟩:=⟨_,rfl⟩;have hS1l:∀j x,S'.objs[j]?=some x→S1.objs[j]?=some x:=fun j x h=>by rw[hS1];simp only;rw[aw (aL.1 h).1];exact h
  have gw1:nD S0 S1 ob (p++(l.take i).flatMap eJ):=by
   obtain⟨a,bv,b,c⟩:=gw;refine⟨a,bv,hS1l _ _ b,?_⟩;rw[hS1];exact c.objs _
  obtain⟨cv,c1,c2⟩:=Sr hsv.isl (by omega) S1;have c1:=jf c1
  have htk:(l.take (i+1)).flatMap eJ=(l.take i).flatMap eJ++eJ l[i]:=by
   rw[List.take_succ_eq_append_getElem hi,lQ];simp
  have hpre:=Av eJ l (i+1);rw[htk,ak]at hpre;have hsb:(eJ l[i]).length=(bU (cz l[i].2).length).length+((cz l[i].2).flatMap fun c=>dP (eT c)).length:=by simp only[eJ,ak]
  obtain⟨S2,d1,d2,d3,d4⟩:=Ag gw1 (by rw[ak];omega) (n:=(cz l[i].2).length) (by omega);have h8s:S2.objs[o8]?=some [.fn 261 [.ptr ob 0]]:=by rw[d4 _ gne];exact hS1l _ _ g8o
  have hcvl:dl false cv=some (.int .i64 ((cz l[i].2).length:Int)):=by
   obtain⟨qs,q1,q2,_⟩:=c2;rw[q1.len,q2]
  have hw1:IntKind.i64.wrap ((i:Int)+1)=((i+1:Nat):Int):=by have:=hb.len;rw[bT]<;>omega
  have hlt:(i:Int)<(l.length:Int):=by omega
  have hn1:S1.objs[S'.objs.length]?=some [lv,sv]:=by rw[hS1];simp
  have h8s1:=hS1l _ _ g8o;rw[bH];simp -implicitDefEqProofs [g36,g37,g38,g7,g8,g9,hg,hlt,hi,dD,lY,o1,o2,s1,s2,hc0,aH,cR,bB,←hS1,dG hn1,c1,dG h8s1,hcvl,d1];refine Tm c2 (Al _ _ rfl hri) (by omega) (p:=p++(l.take i).flatMap eJ++bU (cz l[i].2).length) (by simp only[ak]at hpre ⊢;omega) (o1:=v) (o2:=.int .i64 (l.length:Int)) (o3:=.int .i64 (i:Int)) (by simp) (by simp) (by simp) (by simp[g7]) (by simp[g8]) (by simp[g9]) (by simp[g36]) (by simp[g37]) (by simp[g38]) ⟨d2,gne,h8s⟩ (fun fr2 S3 e7 e8 e9 e36 e37 e38 ew=>?_);simp -implicitDefEqProofs [e38];refine k _ _ ⟨by simp[e36],by simp[e37],by simp[hw1],by simp[e7],by simp[e8],by simp[e9],?_⟩
  have e:p++(l.take (i+1)).flatMap eJ=p++(l.take i).flatMap eJ++bU (cz l[i].2).length++(cz l[i].2).flatMap fun c=>dP (eT c):=by
   rw[htk];simp[eJ]
  rw[e];exact ew
 ·rintro fr' S' ⟨g36,g37,g38,g7,g8,g9,gw⟩;rw[il]at gw;rw[bH];simp -implicitDefEqProofs [g37,g38];exact kk _ _ (by simp[g7]) gw
end Ps
set_option linter.defProp false
namespace Ps
set_option linter.unusedSimpArgs false
set_option linter.unusedVariables false
open Go Go.Proofs
def iw.more{S S2:St}{p:PV}{ls:List (List ad)}(h:iw S p ls)(hg:aV S S2):iw S2 p ls:=by
 obtain⟨ox,om,n0,sv,qs,kv,h1,h2,h3,h4,h5,h6⟩:=h.at_;obtain⟨o,t,rfl⟩:=hg;refine⟨ox,om,n0,sv,qs,kv,h1,h2,?_,?_,h5.more _ t rfl,h6⟩
 ·simp only;rw[aw (aL.1 h3).1];exact h3
 ·simp only;rw[aw (aL.1 h4).1];exact h4
def kS(l:List cA):Prop:=∀s∈l,(s.1.length≤maxLen∧∀x∈s.1,x.1.length≤maxLen)∧s.2.length≤4000000000
def To:T1.fn 155=some (.code jD):=rfl
def Tp{l:List cA}{v:PV}(hv:iu v l)(hb:kS l)(hN:l.length≤4000000000)(hz:dH l≠0)(S:St):aS T1 155 [v] S=some (.tup [.nils,.int .i64 (dH l)],S):=by
 have hck:=fun S=>jf (uP hv hb hN S);have hc:(((dH l:Nat):Int) != 0)=true:=by simpa using hz
 refine cM To rfl ?_;simp -implicitDefEqProofs [jD,hck,hc];exact gE (aV.refl S) rfl
def Tq{l:List cA}{v:PV}(hv:iu v l)(hb:kS l)(hz:dH l=0)(S:St)(Q:Fr→St→Prop)(hQ:∀fr S' bv,bI S 1 S' bv (aJ (dQ l))→fr 2=bv→fr 3=.int .i64 0→Q fr S'):Ok (aF T1 [.code jD.body] (bX [v]) S) Q:=by
 have hk:=Ao hz;have hlen:=hk.len;have hck:=fun S=>jf (uP hv hb (by omega) S);rw[hz]at hck;have hck:∀S,aS T1 64 [v] S=some (.int .i64 0,S):=hck;obtain⟨es,hes,hel,hee⟩:=id hv;have hvl:=hes.len;rw[hel]at hvl;obtain⟨v',s1,s2⟩:=zo hv (by omega) S;have s1:=jf s1;obtain⟨w1,w2⟩:=AD s2 (fun x hx=>by obtain⟨s,hs,rfl⟩:=List.mem_map.1 hx;exact(hb s hs).1) (by simp;unfold maxLen;omega) S;obtain⟨S1,n1,n2,n3⟩:=w2 hk.ix;have n1:=jf n1;have hxo:=uY hk.ix;have hS1:S.objs.length≤S1.objs.length∧S.tips.length≤S1.tips.length:=by obtain⟨o,t,rfl⟩:=n2;simp
 obtain⟨Sx,hSx⟩:∃Sx:St,Sx=⟨S1.objs++[[.sl (some (S1.tips.length,4)) (aJ fN) []],[.fn 261 [.ptr S1.objs.length 0]]],S1.tips++[(4,1)]⟩:=⟨_,rfl⟩;have hgx:aV S1 Sx:=⟨[[.sl (some (S1.tips.length,4)) (aJ fN) []],[.fn 261 [.ptr S1.objs.length 0]]],[(4,1)],hSx⟩;have hob:Sx.objs[S1.objs.length]?=some [.sl (some (S1.tips.length,4)) (aJ fN) []]:=by rw[hSx];simp
 have ho8:Sx.objs[S1.objs.length+1]?=some [.fn 261 [.ptr S1.objs.length 0]]:=by rw[hSx];simp
 have hwx:kR S Sx S1.objs.length (S1.objs.length+1) fN:=⟨⟨hS1.1,_,hob,n2.trans hgx,.inr ⟨S1.tips.length,hS1.2,rfl,by rw[hSx];simp;rfl⟩⟩,by omega,ho8⟩;have hby:=Tc (n3.more hgx) hxo;have hbl:=Au hk;have hbe:(dt l).length=fN.length+(dP (df (l.map (·.1)))).length+(l.flatMap eJ).length:=by simp only[dt,ak]
 have hil:=At hxo;obtain⟨S3,p1,p2,p3,p4⟩:=Ah (x:=df (l.map (·.1))) hwx.wt (by have:fN.length=4:=rfl;omega) ho8 hwx.ne (nA _).isl;have hw3:kR S S3 S1.objs.length (S1.objs.length+1) (fN++dP (df (l.map (·.1)))):=⟨p2,hwx.ne,by rw[p4 _ hwx.ne];exact ho8⟩;have hmg:aJ fN=[.int .u8 71,.int .u8 66,.int .u8 75,.int .u8 49]:=rfl;rw[hmg]at hSx;simp -implicitDefEqProofs [jD,hck,s1,n1,aH,cx,eP,dF,cR,bB,←hSx,hby,p1,hvl];refine Tn (S0:=S) (ob:=S1.objs.length) (o8:=S1.objs.length+1) (p:=fN++dP (df (l.map (·.1)))) hk hes.reads hel hee (by simp only[ak];omega) (by simp) (by simp) (by simp) (by simp) (by simp) (by simp) hw3 (fun fr' S4 g7 gw=>?_);obtain⟨⟨_,bv,ho4,ha4⟩,_,_⟩:=gw;have ha4:bI S 1 S4 bv (aJ (dt l)):=ha4;have hs4:=Ai (b:=dt l) (ha4.isSl (kN _)).reads (by omega) S4;have hs4:cE (aS T1) .keep 161 [bv] S4=some (.sl none (aJ (dE (dt l))) [],S4):=AC hs4
 obtain⟨v2,S5,a1,a2,a3⟩:=ha4.app (bytes:=1) (aJ (dE (dt l))) (by rw[bo,bo];have:(dE (dt l)).length=4:=rfl;omega);have hap:=((nA (dE (dt l))).isl).appdS (S:=S4);simp -implicitDefEqProofs [g7,dG ho4,dD,hs4,hap,a1];refine hQ _ _ v2 ?_ (by simp) (by simp);rw[dQ,mz];exact a2
end Ps
set_option linter.defProp false
namespace Ps
set_option linter.unusedVariables false
set_option linter.unusedSimpArgs false
open Go
section
variable {X : Tie} {g : Gh} {w w' : World} {S : St}
def Zp(hX:bY X){f:Nat}{fn:Func}{c:aT}(hf:X.P.funcs[X.fnOf f]?=some fn)(hc:ah X fn c=true){args:List PV}(ha:args.length=c.params){R:PV→St→Prop}
  (h:Ok (aF X.T [.code c.body] (bX args) S) (fun fr' S1=>∃vs,bb fr' S1 c.results=some vs∧R (bP vs) S1)):ca X f args S (fun q=>∃r S1,q=.ret r S1∧R r S1):=by
 obtain⟨⟨fr',S1⟩,hg,vs,hra,hR⟩:=h;obtain⟨k,e,hcode,he⟩:=Nf hg;intro g w us hS hV;simp only[ah,aI,bne_iff_ne,ne_eq]at hc;obtain⟨⟨hb,hname⟩,hr⟩:=hc;split at hb
 rotate_left
 ·cases hb
 rename_i body hbody;refine⟨iW hf hname hbody,calls_of_wp hf hbody ?_⟩;refine yd hX (qI hX k) (c:={c with raw:=true}) (r:=bP vs) (S':=S1) hb hr hS hV ?_ (fun u w' hst=>⟨_,_,⟨_,_,rfl,hR⟩,hst⟩);rw[if_pos ha];rcases he with rfl|rfl
 ·simp only[hcode,hra,ac,if_true]
 ·simp only[hcode,hra,ac,if_true]
inductive tI(S:St):PV→PV→St→Prop where
 |free (r:PV) (h:r.free=true):tI S r r.frz S
 |made (id:Nat) (es:List PV) (c:PV) (hne:es≠[]) (hes:∀x∈es,x.cells=[x]∧x.scal=true) (hc:c.scal=true) :
   tI S (.tup [.sl (some (id,es.length)) es [],c]) (.tup [.osl S.objs.length 0 es.length 1,c]) {S with objs:=S.objs++[es]}
def Zq(hS:SR X g S w){S1 S':St}{r0 r:PV}{u:Value}(hst:bu X (bN g.pub) w S1 r0 u w')(ht:tI S r0 r S'):bu X g w S' r u w':=by
 obtain⟨g1,hle,hS1,hr⟩:=hst;have hpo:∀b,b<w.heap.size→g1.pub b=g.pub b:=fun b hb=>hle.pubN b hb (fun id h=>absurd h (by simp[bN])) rfl (fun id h=>absurd h (by simp[bN]));have hkeep:∀b,b<w.heap.size→w'.heap[b]?=w.heap[b]?:=fun b hb=>hle.keep b hb (fun id h=>absurd h (by simp[bN])) rfl (fun id h=>absurd h (by simp[bN]))
 have harrlt:∀{b:Nat} {x:Nat×Nat},g.arr b=some x→b<w.heap.size:=fun {b x} h=>by
  rcases iH b w.heap.size with hb|hb
  ·exact hb
  ·have:=(hS.lt b hb).2;rw[h]at this;cases this
 cases ht with
 |free _ hrf=>
  let g2:Gh:={g with pub:=g1.pub}
  have hle2:Le g w g2 w':=⟨hle.os,hle.tape,hle.output,hle.size,fun _ _ h=>h,fun _ _ h=>h,fun _ _ h=>h,hle.pub,hle.cell,hle.shape,fun id _ h=>.inl ⟨id,h⟩,fun _ _ h=>.inl h,
   fun b hb _ _ _=>hkeep b hb,fun b hb _ _ _=>hpo b hb,fun _ _ h=>h,fun _ _ h=>.inl h,fun b _ _ h e=>⟨h,by rw[hkeep b (hS.maps.fzb h)];exact e⟩⟩
  refine⟨g2,hle2,⟨fun i b h=>?_,hS.inj,fun i b h=>?_,fun b id base h=>?_,hS.asz,fun b hb=>?_,hS.maps.of (fun _ _ h=>h) (fun _ _ _=>rfl) (fun i b h=>hkeep b (hS.maps.lt h)) (fun c u r=>r.mono hle2) (fun i b h=>⟨hpo b (hS.maps.lt h),rfl⟩) (fun _ _ _ _ h=>h),hS.gl.le hle2⟩,VR.freeze (g1:=g1) (g2:=g2) (fun _=>aR _) hr hrf⟩
  ·obtain⟨cs,us',t,k1,k2,k3,k4⟩:=hS.obj i b h;exact⟨cs,us',t,k1,by rw[hkeep b (fi hS i b h)];exact k2,k3,fun j c u e1 e2=>(k4 j c u e1 e2).mono hle2⟩
  ·have k:=hS.objpub i b h;exact⟨fun hl=>by simp only[g2];rw[hpo b (fi hS i b h)];exact k.1 hl,k.2⟩
  ·obtain⟨sz,tip,k1,k2,k3,k4⟩:=hS.arr b id base h;exact⟨sz,tip,k1,k2,k3,by simp only[g2];rw[hpo b (harrlt h)];exact k4⟩
  ·have k:=hS1.lt b hb
   exact⟨k.1,(hS.lt b (Nat.le_trans hle.size hb)).2⟩
 |made id es c hne hes hcs=>
  cases hr with
  |tup _ us2 hl hv=>
   have hl2:us2.size=2:=hl.symm;obtain⟨u0,h0⟩:∃u0,us2[0]?=some u0:=⟨us2[0],dy (by omega)⟩;obtain⟨u1,h1⟩:∃u1,us2[1]?=some u1:=⟨us2[1],dy (by omega)⟩;have r0:=hv 0 _ u0 rfl h0;have r1:=hv 1 _ u1 rfl h1
   cases r0 with
   |sl _ _ _ b o cap sz us hcap hpos hsz hpub hc hvs hlink hone=>
    obtain⟨x0,l0,rfl⟩:∃x0 l0,es=x0::l0:=by
     cases es with
     |nil=>exact absurd rfl hne
     |cons x l=>exact⟨x,l,rfl⟩
    have hsz1:sz=1:=by
     rw[←hsz x0 (by simp),(hes x0 (by simp)).1];rfl
    subst hsz1;generalize hes2:x0::l0=es at *;clear hes2;obtain⟨k1,k2,k3⟩:=hlink id es.length rfl rfl;have k3:=k3.resolve_left (fun q=>q.2.elim hne (fun q=>by omega));obtain⟨base,k4,k5,usb,t,lo,hi,hblk,hn,hfz⟩:=k3;have ho:o=0:=by omega
    subst ho
    have hb:w.heap.size≤b:=by
     rcases hle.arrN b _ k4 with e|e
     ·simp[bN]at e
     ·exact e
    have hbw:b<w'.heap.size:=(bc.1 hblk).1;have hnew:=tC hS;have hol:=kD hS;have hbl:=fi hS;let g2:Gh:={g with obj:=fun i=>if i=S.objs.length then some b else g.obj i,pub:=fun b'=>if b'=b then 0 else g1.pub b'}
    have hle2:Le g w g2 w':=⟨hle.os,hle.tape,hle.output,hle.size,fun i b' h=>by simp only[g2];rw[if_neg (fun e=>by subst e;rw[hnew]at h;cases h)];exact h,fun _ _ h=>h,fun _ _ h=>h,
     fun b'=>by
      simp only[g2];split
      ·rename_i e;subst e;rw[(hS.lt _ hb).1];exact aR _
      ·exact hle.pub b',hle.cell,hle.shape,fun i b' h=>by
      simp only[g2]at h;split at h
      ·cases h;exact .inr hb
      ·exact .inl ⟨i,h⟩,fun _ _ h=>.inl h,
     fun b' hb' _ _ _=>hkeep b' hb',fun b' hb' _ _ _=>by simp only[g2];rw[if_neg (by omega)];exact hpo b' hb',fun _ _ h=>h,fun _ _ h=>.inl h,fun b' _ _ h e=>⟨h,by rw[hkeep b' (hS.maps.fzb h)];exact e⟩⟩
    have hflat:es.flatMap PV.cells=es:=sP (fun x hx=>(hes x hx).1)
    have hlive:∀i b',g.obj i=some b'→bt {S with objs:=S.objs++[es]} i→bt S i:=by
     rintro i b' h ⟨c',l,e⟩;simp only at e;rw[aw (hol i b' h)]at e;exact⟨c',l,e⟩
    refine⟨g2,hle2,⟨fun i b' h=>?_,fun i j b' h1 h2 hl=>?_,fun i b' h=>?_,fun b' i base' h=>?_,hS.asz,fun b' hb'=>?_,
     hS.maps.of (fun _ _ h=>h) (fun i b' h=>by
      obtain⟨_,_,_,q,_⟩:=hS.maps.ent i b' h;simp only;rw[aw (aL.1 q).1]) (fun i b' h=>hkeep b' (hS.maps.lt h)) (fun c u r=>r.mono hle2) (fun i b' h=>by
      have:=hS.maps.lt h;exact⟨by simp only[g2];rw[if_neg (by omega)];exact hpo b' this,rfl⟩) (fun i b' c h h2=>by
      simp only[g2]at h2;split at h2
      ·rename_i e;subst e;obtain⟨_,_,_,q,_⟩:=hS.maps.ent _ b' h;rw[cr (aR _)]at q;cases q
      ·exact h2),hS.gl.le hle2⟩,.tup _ us2 hl (fun j x y e1 e2=>?_)⟩
    ·simp only[g2]at h;split at h
     ·rename_i e;subst e;cases h;refine⟨es,usb,t,by simp,⟨(lo,hi),hblk,hfz⟩,by omega,fun j x y e1 e2=>?_⟩;have hj:j<es.length:=(aL.1 e1).1;have q1:=hc j (by simp;omega);have q1:y=us j:=by simpa[World.cell?,hblk,e2]using q1
      rw[q1];have q2:=hvs j x (by rw[dn,hflat];exact e1);exact q2.ofScal (hes x (ct e1)).2
     ·obtain⟨cs,us',t',k1,k2,k3,k4⟩:=hS.obj i b' h;exact⟨cs,us',t',by simp only;rw[aw (aL.1 k1).1];exact k1,by rw[hkeep b' (hbl i b' h)];exact k2,k3,fun j c u e1 e2=>(k4 j c u e1 e2).mono hle2⟩
    ·simp only[g2]at h1 h2;split at h1<;>split at h2
     ·omega
     ·cases h1;have:=hbl j _ h2;omega
     ·cases h2;have:=hbl i _ h1;omega
     ·exact hS.inj i j b' h1 h2 (hlive j b' h2 hl)
    ·simp only[g2]at h;split at h
     ·cases h;exact⟨fun _=>by simp[g2],(hS.lt _ hb).2⟩
     ·have k:=hS.objpub i b' h;have:=hbl i b' h;exact⟨fun hl=>by simp only[g2];rw[if_neg (by omega),hpo b' this];exact k.1 (hlive i b' h hl),k.2⟩
    ·obtain⟨sz,tip,k1,k2,k3,k4⟩:=hS.arr b' i base' h;have:=harrlt h;exact⟨sz,tip,k1,k2,k3,by simp only[g2];rw[if_neg (by omega),hpo b' this];exact k4⟩
    ·have k:=hS1.lt b' hb';exact⟨by simp only[g2];split;rfl;exact k.1,(hS.lt b' (Nat.le_trans hle.size hb')).2⟩
    ·match j with
     |0=>
      simp only[ik,ae]at e1;subst e1;rw[h0]at e2;cases e2
      exact .osl _ _ _ _ cap b (by simp[g2]) (by omega) (fun _=>⟨usb,t,lo,hi,hblk,by omega,hfz⟩)
     |1=>
      simp only[tZ,ik,ae]at e1;subst e1;rw[h1]at e2;cases e2
      exact r1.ofScal hcs
     |j+2=>simp at e1
def Zr{T:aM}{f:Nat}{e:List PV→St→Option (PV×St)}
  (h:∀args S r S',e args S=some (r,S')→PV.freeL args=true∧ca X f (PV.frzL args) bF (fun q=>∃r0 S1,q=.ret r0 S1∧tI S r0 r S')):oB (X.withT T) f e:=by
 intro args S r S' he g w us hS hV o a next Q hn
 obtain⟨hfree,hs⟩:=h args S r S' he;have hS':SR X g S w:=by have:=hS.tb (T:=X.T);exact this
 have hV':bD X g w args us:=by have:=hV.tb (T:=X.T);exact this
 have hS0:SR X (bN g.pub) bF w:=pq (fun b hb=>(hS'.lt b hb).1) (yF hS'.gl)
 have hV0:bD X (bN g.pub) w (PV.frzL args) us:=by
  rw[fS];refine⟨by simpa using hV'.1,fun j c u e1 e2=>?_⟩;rw[fk]at e1
  cases hc':args[j]? with
  |none=>rw[hc']at e1;cases e1
  |some c'=>rw[hc']at e1;cases e1;exact VR.freeze (g1:=g) (g2:=bN g.pub) (fun _=>aR _) (hV'.2 j c' u hc' e2) (di hfree c' (ct hc'))
 obtain⟨h1,h2⟩:=hs (bN g.pub) w us hS0 hV0;have h1':(callFunc ((X.withT T).fnOf f) us).run (X.withT T).P w=.ok (.enter ((X.withT T).fnOf f) us) w:=h1;rw[h1',Oper.upon_enter];refine h2.mono fun e w' he=>?_
 cases e with
 |returned u=>
  obtain⟨v,S1,⟨r0,S2,q0,ht⟩,q2⟩:=he;cases q0
  exact hn u w' (Zq hS' q2 ht).tb
 |panicked ch=>obtain⟨v,S1,u,_,⟨r0,S2,q0,_⟩,_⟩:=he;cases q0
 |outgrown=>exact he.elim
end
end Ps
set_option linter.defProp false
namespace Ps
set_option linter.unusedSimpArgs false
set_option linter.unusedVariables false
open Go Go.Proofs
set_option maxRecDepth 100000
def NP:tie1.P.funcs[tie1.fnOf 155]?=some Tryz.f8:=Tryz.func8
def NQ:ah tie1 Tryz.f8 jD=true:=(yj _ _).trans Pw
def WJ:Tryz.f8.name ≠ "runtime.NumGoroutine" := by decide +kernel
def NR:bY tie1:=ue
def WK{l:List cA}{v:PV}(hv:iu v l)(hb:kS l)(hz:dH l=0) :
  ca tie1 155 [v] bF (fun q=>∃r0 S1,q=.ret r0 S1∧∃id,r0=.tup [.sl (some (id,(aJ (dQ l)).length)) (aJ (dQ l)) [],.int .i64 0]):=by
 refine Zp NR (c:=jD) NP NQ rfl (R:=fun r0 S1=>∃id,r0=.tup [.sl (some (id,(aJ (dQ l)).length)) (aJ (dQ l)) [],.int .i64 0]) (Tq hv hb hz bF _ (fun fr S' bv ha f2 f3=>?_));refine⟨[bv,.int .i64 0],by simp[jD,bb,hI,f2,f3],?_⟩;have hne:aJ (dQ l)≠[]:=by simp[dQ,dt,fN,aJ]
 rcases ha.acc with⟨_,e⟩|⟨id,_,e,_⟩
 ·exact absurd e hne
 ·exact⟨id,by rw[e];rfl⟩
def WM{l:List cA}{v:PV}(hv:iu v l)(hb:kS l)(hN:l.length≤4000000000)(hz:dH l≠0):ca tie1 155 [v] bF (fun q=>q=.ret (.tup [.nils,.int .i64 (dH l)]) bF):=by
 obtain⟨c,hc⟩:∃c,Tryz.f8.body=some c:=by
  cases h:Tryz.f8.body with
  |none=>exact absurd NQ (by simp[ah,h])
  |some c=>exact⟨c,rfl⟩
 exact yu NR NP hc WJ (Tp hv hb hN hz bF)
end Ps
namespace Ps
open Go Go.Proofs
def Tr:List aA:=[M 15 1]++(Q 16 (.wc [] (.cst (.fn 66 [])) [(V 15)])::[M 14 16,EX 17 0 14,EX 18 1 14,M 3 17,M 4 18])
def Ts:List aA:=[]++(Q 20 (.wc [] (.cst (.fn 66 [])) [(.cst .nils)])::[M 19 20,EX 21 0 19,EX 22 1 19,M 5 21,M 6 22])
def Tt:List aA:=[M 42 1,Q 43 (.toStr (V 42)),Q 44 (.call .pur 156 []),Q 45 (.call .pur 152 [(V 44)]),Q 46 (.toStr (V 45)),Q 47 (.arith .eql (V 43) (V 46)),M 48 47,QG (some 49) (.mov (V 1)) 48 true,QG (some 50) (.len false (V 49)) 48 true,QG (some 51) (.arith .eql (V 50) (I 24)) 48 true,Q 52 (.pick (V 48) (V 51) bO),M 53 52,QG (some 54) (.mov (V 7)) 53 true,QG (some 55) (.len false (V 54)) 53 true,QG (some 56) (.arith .eql (V 55) (I 1)) 53 true,Q 57 (.pick (V 53) (V 56) bO),M 58 57,QG (some 59) (.mov (V 7)) 58 true,QG (some 60) (.iaddr 2 (V 59) (I 0)) 58 true,QG (some 61) (.load true 2 true (V 60)) 58 true,QG (some 62) (.build [(.int .i64 0),(.int .i64 0)] [(0,1,(I 10)),(1,1,(I 5))]) 58 true,QG (some 63) (.eqs false 2 (V 61) (V 62)) 58 true,Q 64 (.pick (V 58) (V 63) bO),M 65 64,QG (some 66) (.mov (V 8)) 65 true,QG (some 67) (.arith .eql (V 66) (I 0)) 65 true,Q 68 (.pick (V 65) (V 67) bO),M 69 68,Q 70 (.pick (V 69) cN bO),M 0 70]
def Aw:aT:=
 ⟨0,[.tmp 0],
 (.seq (.region Hr) (.seq (.clr [(9,14)] (.region Hs)) (.seq (.clr [(14,19)] (.region Tr)) (.seq (.clr [(5,6),(19,23)] (.region Ts)) (.seq (.seq (.clr [(23,36)] (.region Ht)) (.cond (V 36) (.seq (.region Hu) .ret) .skip)) (.seq (.clr [(37,42)] (.region Hv)) (.seq (.clr [(42,71)] (.region Tt)) .ret))))))),false⟩
end Ps
set_option linter.defProp false
namespace Ps
open Go Go.Proofs
def func65:tie.P.funcs[tie.fnOf 65]?=some Tryz.f13:=Tryz.func13
def Tu:eY tie Tryz.f13 Aw=true:=by kernel_rfl
def Tv:tie.P.funcs[tie.fnOf 458]?=some Tryz.f5:=Tryz.func5
end Ps
