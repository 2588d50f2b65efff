/- An index is made: walked. -/
import Derived.Test.YtpjmpaidcidjgaaGreatDoorAbbKt
import Derived.Test.YtpjmpaidcidjgaaGreatDoorBDKt
set_option linter.defProp false
namespace Ps
set_option linter.unusedSimpArgs false
set_option linter.unusedVariables false
open Go
def dq(S:St)(sz n0:Nat)(v:PV)(es:List PV):Prop:=(v=.nils∧es=[])∨∃id,n0≤id∧v=.sl (some (id,es.length)) es []∧S.tips[id]?=some (es.length,sz)
def cy:PV→Option Nat
 |.sl (some (id,_)) _ _=>some id
 |_=>none
def dq.reads{S:St}{sz n0:Nat}{v:PV}{es:List PV}(h:dq S sz n0 v es)(hc:∀e∈es,e.cells.length=sz):cn sz v es:=by
 rcases h with⟨rfl,rfl⟩|⟨id,_,rfl,_⟩
 ·exact xX sz
 ·exact xY hc
def dq.one{S:St}{sz n0:Nat}{v:PV}{es:List PV}(h:dq S sz n0 v es):v.one=true∧v.cells=[v]:=by
 rcases h with⟨rfl,rfl⟩|⟨id,_,rfl,_⟩<;>exact⟨rfl,rfl⟩
def zp(S:St)(sz n0:Nat):dq S sz n0 .nils []:=.inl ⟨rfl,rfl⟩
def dq.more{S:St}{sz n0:Nat}{v:PV}{es:List PV}(h:dq S sz n0 v es)(S':St)(t:List (Nat×Nat))(e:S'.tips=S.tips++t):dq S' sz n0 v es:=by
 rcases h with h|⟨id,h1,h2,h3⟩
 ·exact .inl h
 ·exact .inr ⟨id,h1,h2,by rw[e,aw (aL.1 h3).1];exact h3⟩
def dq.lt{S:St}{sz n0:Nat}{v:PV}{es:List PV}(h:dq S sz n0 v es){i:Nat}(e:cy v=some i):i<S.tips.length∧n0≤i:=by
 rcases h with⟨rfl,_⟩|⟨id,h1,rfl,h3⟩
 ·cases e
 ·cases e;exact⟨(aL.1 h3).1,h1⟩
def dq.push{S:St}{sz n0 bytes:Nat}{v:PV}{es:List PV}(h:dq S sz n0 v es)(hn:n0≤S.tips.length)(e:PV)(hb:(es.length+1)*bytes≤140737488355328) :
  ∃v' S',dT sz bytes S v [e]=some (v',S')∧dq S' sz n0 v' (es++[e])∧S'.objs=S.objs∧S'.tips.take n0=S.tips.take n0∧S.tips.length≤S'.tips.length∧(cy v'=cy v∨cy v'=some S.tips.length)∧cy v'≠none ∧
   ∀sz' u qs,dq S sz' n0 u qs→(cy u=none∨cy u≠cy v)→dq S' sz' n0 u qs:=by
 rcases h with⟨rfl,rfl⟩|⟨id,h1,rfl,h3⟩
 ·refine⟨.sl (some (S.tips.length,1)) [e] [],⟨S.objs,S.tips++[(1,sz)]⟩,?_,.inr ⟨S.tips.length,hn,rfl,by simp⟩,rfl,by simp[jW hn],by simp,.inr rfl,by simp[cy],fun sz' u qs hu _=>hu.more _ _ rfl⟩;have:bytes≤140737488355328:=by simpa using hb
  simp[dT,dF,this]
 ·have hl:=(aL.1 h3).1;refine⟨.sl (some (id,es.length+1)) (es++[e]) [],⟨S.objs,S.tips.set id (es.length+1,sz)⟩,?_,.inr ⟨id,h1,by simp,by simp[hl]⟩,rfl,?_,by simp,.inl rfl,by simp[cy],fun sz' u qs hu hne=>?_⟩
  ·simp[dT,h3,hb]
  ·simp only;rw[List.take_set_of_le h1]
  ·rcases hu with h|⟨id',k1,rfl,k3⟩
   ·exact .inl h
   ·have:id'≠id:=by
     rcases hne with h|h
     ·cases h
     ·exact fun e=>h (by rw[e];rfl)
    exact .inr ⟨id',k1,rfl,by simp only;rw[bq (Ne.symm this)];exact k3⟩
abbrev K2:=List UInt8×List UInt8
def de(k:K2):PV:=.agg [.str k.1,.str k.2]
def cQ(l:List (K2×PV)):List PV:=l.flatMap fun e=>[de e.1,e.2]
def eu(k:K2):List (K2×PV)→Option PV
 | []=>none
 |e::l=>if e.1=k then some e.2 else eu k l
def dC(k:K2)(v:PV):List (K2×PV)→List (K2×PV)
 | []=>[(k,v)]
 |e::l=>if e.1=k then(k,v)::l else e::dC k v l
def zq(a b:K2):PV.beq (de a) (de b)=decide (a=b):=by
 obtain⟨a1,a2⟩:=a;obtain⟨b1,b2⟩:=b;rw[qa];simp[de,PV.beq,PV.beqL]
def uL(l:List (K2×PV)):(cQ l).length=2*l.length:=by
 induction l with
 |nil=>rfl
 |cons e l ih=>simp only[cQ,dB,ak,bE,cP]at ih ⊢;rw[show(List.flatMap (fun e=>[de e.1,e.2]) l).length=2*l.length from ih];omega
theorem zr(k:K2):∀l:List (K2×PV),cL (de k) (cQ l)=eu k l
 | []=>rfl
 |e::l=>by
  show(if PV.beq (de e.1) (de k)=true then some e.2 else cL (de k) (cQ l))=_;rw[zq,zr k l];simp[eu]
theorem zs(k:K2)(v:PV):∀l:List (K2×PV),ci (de k) v (cQ l)=cQ (dC k v l)
 | []=>rfl
 |e::l=>by
  show(if PV.beq (de e.1) (de k)=true then de k::v::cQ l else de e.1::e.2::ci (de k) v (cQ l))=_;rw[zq,zs k v l];by_cases h:e.1=k
  ·simp[dC,h,cQ]
  ·simp[dC,h,cQ]
theorem zt(S:St):∀l:List (K2×PV),du true S (cQ l)=true
 | []=>rfl
 |e::l=>by
  show(cK true S (de e.1)&&du true S (cQ l))=true;rw[zt S l];rfl
theorem zw(k:K2)(u v:PV):∀l:List (K2×PV),dC k v (dC k u l)=dC k v l
 | []=>by simp[dC]
 |e::l=>by
  by_cases h:e.1=k
  ·simp[dC,h]
  ·simp[dC,h,zw k u v l]
def zx(k:K2)(v:PV)(l:List (K2×PV)):(dC k v l).map (·.1)=if k∈l.map (·.1)then l.map (·.1)else l.map (·.1)++[k]:=by
 induction l with
 |nil=>simp[dC]
 |cons e l ih=>
  by_cases h:e.1=k
  ·simp[dC,h]
  ·have h':¬k=e.1:=fun q=>h q.symm;simp only[dC,if_neg h,cB,ih,cY,h',false_or];split<;>simp
def uM{k:K2}{v:PV}{l:List (K2×PV)}{e:K2×PV}(h:e∈dC k v l):e=(k,v)∨(e∈l∧(e.1≠k∨¬(l.map (·.1)).Nodup)):=by
 induction l with
 |nil=>simp[dC]at h;exact .inl h
 |cons a l ih=>
  by_cases ha:a.1=k
  ·simp only[dC,if_pos ha,cY]at h;rcases h with h|h
   ·exact .inl h
   ·refine .inr ⟨by simp[h],?_⟩;by_cases he:e.1=k
    ·right;simp only[cB,mm,not_and];intro q;exact absurd (List.mem_map.2 ⟨e,h,by rw[he,ha]⟩) q
    ·exact .inl he
  ·simp only[dC,if_neg ha,cY]at h;rcases h with rfl|h
   ·exact .inr ⟨by simp,.inl ha⟩
   ·rcases ih h with h|⟨h1,h2⟩
    ·exact .inl h
    ·refine .inr ⟨by simp[h1],h2.imp id fun q q'=>?_⟩;simp only[cB,mm]at q';exact q q'.2
theorem oZ{k:K2}{v:PV}:∀{l:List (K2×PV)},eu k l=some v→(k,v)∈l
 |e::l,h=>by
  by_cases he:e.1=k
  ·simp only[eu,if_pos he,ae]at h;subst h;subst he;simp
  ·simp only[eu,if_neg he]at h;exact List.mem_cons_of_mem _ (oZ h)
structure iv(S:St)(n0:Nat)(B:Nat)(w:PV)(l:List (K2×PV)):Prop where
 keys:(l.map (·.1)).Nodup
 own:∀e∈l,∃qs,dq S 1 n0 e.2 qs∧qs.length≤B∧cy e.2≠none
 dist:l.Pairwise fun a b=>cy a.2≠cy b.2
 apart:∀e∈l,cy e.2≠cy w
def iv.more{S:St}{n0 B:Nat}{w:PV}{l:List (K2×PV)}(h:iv S n0 B w l)(S':St)(t:List (Nat×Nat))(e:S'.tips=S.tips++t):iv S' n0 B w l:=
 ⟨h.keys,fun x hx=>by obtain⟨qs,h1,h2,h3⟩:=h.own x hx;exact⟨qs,h1.more S' t e,h2,h3⟩,h.dist,h.apart⟩
def iv.le{S:St}{n0 B B':Nat}{w:PV}{l:List (K2×PV)}(h:iv S n0 B w l)(hb:B≤B'):iv S n0 B' w l:=
 ⟨h.keys,fun x hx=>by obtain⟨qs,h1,h2,h3⟩:=h.own x hx;exact⟨qs,h1,Nat.le_trans h2 hb,h3⟩,h.dist,h.apart⟩
theorem zy{α:Type}{R:α→α→Prop}(hs:∀a b,R a b→R b a):∀{l:List α},l.Pairwise R→∀a∈l,∀b∈l,a≠b→R a b
 | [],_,a,ha,_,_,_=>by simp at ha
 |x::l,h,a,ha,b,hb,hne=>by
  obtain⟨h1,h2⟩:=th.1 h;rcases cY.1 ha with ea|ha1
  ·rcases cY.1 hb with eb|hb1
   ·exact absurd (ea.trans eb.symm) hne
   ·rw[ea];exact h1 b hb1
  ·rcases cY.1 hb with eb|hb1
   ·rw[eb];exact hs _ _ (h1 a ha1)
   ·exact zy hs h2 a ha1 b hb1 hne
theorem zz{k:K2}{v:PV}{R:K2×PV→K2×PV→Prop}(hs:∀a b,R a b→R b a):∀{l:List (K2×PV)},(l.map (·.1)).Nodup→l.Pairwise R→(∀e∈l,e.1≠k→R e (k,v))→(dC k v l).Pairwise R
 | [],_,_,_=>by simp[dC]
 |a::l,hn,hp,hk=>by
  simp only[cB,mm]at hn;obtain⟨hp1,hp2⟩:=th.1 hp;by_cases ha:a.1=k
  ·simp only[dC,if_pos ha];refine th.2 ⟨fun e he=>hs _ _ (hk e (by simp[he]) (fun q=>hn.1 (List.mem_map.2 ⟨e,he,by rw[q,ha]⟩))),hp2⟩
  ·simp only[dC,if_neg ha];refine th.2 ⟨fun e he=>?_,zz hs hn.2 hp2 (fun e he=>hk e (by simp[he]))⟩;rcases uM he with rfl|⟨h1,_⟩
   ·exact hk a (by simp) ha
   ·exact hp1 e h1
def iv.put{S:St}{n0 B:Nat}{w:PV}{l:List (K2×PV)}(h:iv S n0 B w l)(hn:n0≤S.tips.length)(hB:(B+1)*8≤140737488355328)(hw:∀i,cy w=some i→i<S.tips.length)(k:K2)(x:PV) :
  ∃v' S',dT 1 8 S ((eu k l).getD .nils) [x]=some (v',S')∧iv S' n0 (B+1) w (dC k v' l)∧S'.objs=S.objs∧S'.tips.take n0=S.tips.take n0∧S.tips.length≤S'.tips.length ∧
   ∀sz es,dq S sz n0 w es→dq S' sz n0 w es:=by
 have hv0:∃qs,dq S 1 n0 ((eu k l).getD .nils) qs∧qs.length≤B∧((eu k l).getD .nils=.nils∧eu k l=none∨eu k l=some ((eu k l).getD .nils)):=by
  cases hl:eu k l with
  |none=>exact⟨[],zp _ _ _,bh _,.inl ⟨rfl,rfl⟩⟩
  |some v=>
   obtain⟨qs,h1,h2,h3⟩:=h.own (k,v) (oZ hl);exact⟨qs,h1,h2,.inr rfl⟩
 obtain⟨qs,ho,hq,hcase⟩:=hv0;obtain⟨v',S',a1,a2,a3,a4,a5,a6,a7,a8⟩:=ho.push hn x (bytes:=8) (by omega)
 have hoth:∀e∈l,e.1≠k→cy e.2≠cy ((eu k l).getD .nils)∧cy e.2≠cy v':=by
  intro e he hne;obtain⟨qe,h1,h2,h3⟩:=h.own e he
  have hd:cy e.2≠cy ((eu k l).getD .nils):=by
   rcases hcase with⟨h4,_⟩|h4
   ·rw[h4];exact h3
   ·have hm:=oZ h4
    have hp:∀a∈l,∀b∈l,a≠b→cy a.2≠cy b.2:=by
     intro a ha b hb hab;exact zy (fun a b q=>Ne.symm q) h.dist a ha b hb hab
    exact hp e he _ hm (fun q=>hne (by rw[q]))
  refine⟨hd,?_⟩;rcases a6 with q|q
  ·rw[q];exact hd
  ·intro q2;rw[q]at q2;have:=(h1.lt q2).1;omega
 refine⟨v',S',a1,⟨?_,fun e he=>?_,?_,fun e he=>?_⟩,a3,a4,a5,fun sz es hw'=>?_⟩
 ·rw[zx];split
  ·exact h.keys
  ·rename_i hk;exact zU.2 ⟨h.keys,by simp,fun a ha b hb=>by simp at hb;subst hb;exact fun q=>hk (q▸ha)⟩
 ·rcases uM he with rfl|⟨h1,h2|h2⟩
  ·exact⟨_,a2,by simp;omega,a7⟩
  ·obtain⟨qe,k1,k2,k3⟩:=h.own e h1;exact⟨qe,a8 1 e.2 qe k1 (.inr (hoth e h1 h2).1),by omega,k3⟩
  ·exact absurd h.keys h2
 ·exact zz (fun a b q=>Ne.symm q) h.keys h.dist (fun e he hne=>(hoth e he hne).2)
 ·rcases uM he with rfl|⟨h1,_⟩
  ·simp only;rcases a6 with q|q
   ·rw[q];rcases hcase with⟨h4,h5⟩|h4
    ·rw[q,h4]at a7;exact absurd rfl a7
    ·exact h.apart _ (oZ h4)
   ·rw[q];intro q2;have:=hw _ q2.symm;omega
  ·exact h.apart e h1
 ·refine a8 sz w es hw' ?_;rcases hcase with⟨h4,h5⟩|h4
  ·cases hq2:cy w with
   |none=>exact .inl rfl
   |some i=>right;rw[h4];simp[cy]
  ·exact .inr (Ne.symm (h.apart _ (oZ h4)))
end Ps
set_option linter.defProp false
namespace Ps
set_option linter.unusedSimpArgs false
set_option linter.unusedVariables false
open Go
def AA:T.fn 130=some (.code z5):=rfl
def uN:T.fn 51=some (.code lj):=rfl
def RX(l:List ad):∀e∈l.map az,e.cells.length=2∧e.cells.all PV.one=true:=by
 intro e he;obtain⟨x,_,rfl⟩:=List.mem_map.1 he;exact⟨rfl,rfl⟩
def RY:fH false .s .nils=some (.bool true):=rfl
def AB{tip:Option (Nat×Nat)}{es sp:List PV}:fH false .s (.sl tip es sp)=some (.bool false):=rfl
def RZ{v:PV}{l:List ad}(h:cU 2 v (l.map az))(hb:l.length≤4000000000):∃v',(∀S,aS T 130 [v] S=some (v',S))∧bM 2 v' (l.map az):=by
 have happ:=fun S=>h.appdS (S:=S);rcases h with⟨rfl,he⟩|⟨tip,sp,rfl,_⟩
 ·refine⟨.nils,fun S=>?_,by rw[he];exact kg 2⟩;refine cM AA rfl ?_;simp -implicitDefEqProofs [z5,RY];exact gE (aV.refl S) rfl
 ·refine⟨.sl none (l.map az) [],fun S=>?_,nP (qq l) (uF l) (qp l)⟩;refine cM AA rfl ?_
  cases l with
  |nil=>
   simp -implicitDefEqProofs [z5,AB,happ,gD,aH]
   exact sG (aV.refl S) (VG (k:=39))
  |cons x l=>
   have h32:(l.length+1)*32≤140737488355328:=by simp only[bE]at hb;omega
   simp -implicitDefEqProofs [z5,AB,happ,gD,jm,aH,h32];have hcs:(PV.str x.fst::PV.str x.snd.fst::List.flatMap PV.cells (List.map az l))=(List.map az (x::l)).flatMap PV.cells:=rfl;rw[hcs];have hfl:((List.map az (x::l)).flatMap PV.cells).length=(l.length+1)*2:=by rw[wv (qq (x::l))];simp
   have hfree:PV.freeL ((List.map az (x::l)).flatMap PV.cells)=true:=jQ fun c hc=>by
    obtain⟨e,he,hce⟩:=List.mem_flatMap.1 hc;obtain⟨y,_,rfl⟩:=List.mem_map.1 he;simp at hce;rcases hce with rfl|rfl<;>rfl
   have hch:dA 2 (l.length+1) ((List.map az (x::l)).flatMap PV.cells)=List.map az (x::l):=by
    have:=Mk (sz:=2) (by omega) (l:=(x::l).map fun y=>[PV.str y.1,PV.str y.2.1]) (fun c hc=>by obtain⟨y,_,rfl⟩:=List.mem_map.1 hc;rfl) (r:=[]);rw[dN,dn]at this
    have e1:((x::l).map fun y:ad=>[PV.str y.1,PV.str y.2.1]).flatten=(List.map az (x::l)).flatMap PV.cells:=by
     simp[List.flatMap_def,Function.comp_def]
    rw[e1]at this;show dA 2 (x::l).length _=_;rw[this,tg];rfl
   have:=sG (S:=S) (S1:=⟨S.objs++[(List.map az (x::l)).flatMap PV.cells],S.tips⟩) (r:=.osl S.objs.length 0 (l.length+1) 2) ((aV.refl S).obj _)
    (Mm (k:=39) (aR _) (by omega) (by simp) hfl (Mj fun e he=>(RX _ e he).2) (ww hfree) hch)
   rw[this];simp[PV.frz,qp,PV.frzL]
def dr(x:ad):K2:=(x.1,x.2.1)
structure fu(S0 S:St)(sv:PV)(qs:List PV)(kv:List (K2×PV))(B:Nat):Prop where
 pre:S.objs.take S0.objs.length=S0.objs
 tpre:S.tips.take S0.tips.length=S0.tips
 tl:S0.tips.length≤S.tips.length
 swt:∀i,cy sv=some i→i<S.tips.length
 om:S.objs[S0.objs.length]?=some (cQ kv)
 ox:S.objs[S0.objs.length+1]?=some [sv,.map S0.objs.length]
 sets:dq S 1 S0.tips.length sv qs
 posts:iv S S0.tips.length B sv kv
def fu.more{S0 S:St}{sv:PV}{qs:List PV}{kv:List (K2×PV)}{B:Nat}(h:fu S0 S sv qs kv B)(o:List (List PV))(t:List (Nat×Nat)):fu S0 ⟨S.objs++o,S.tips++t⟩ sv qs kv B:=by
 have h1:=(aL.1 h.om).1;have h2:=(aL.1 h.ox).1
 exact⟨by simp only;rw[jW (by omega)];exact h.pre,by simp only;rw[jW h.tl];exact h.tpre,by simp only[ak];have:=h.tl;omega,fun i e=>by simp only[ak];have:=h.swt i e;omega,
  by simp only;rw[aw h1];exact h.om,by simp only;rw[aw h2];exact h.ox,h.sets.more _ t rfl,h.posts.more _ t rfl⟩
def Ra{l:List ad}{lv v:PV}(hlv:cn 2 lv (l.map az))(hl:l.length≤8){S0:St}{i N:Nat}{sv:PV}{qs:List PV}{K:List Kt}{Q:Fr→St→Prop}:∀(n j:Nat),l.length-j=n→j≤l.length→∀(B:Nat) (fr:Fr) (S:St) (kv:List (K2×PV)),
  fr 0=v→fr 4=.ptr (S0.objs.length+1) 0→fr 5=.int .i64 i→fr 17=v→fr 18=.int .i64 N→fr 19=.int .i64 i→fr 52=lv→fr 53=.int .i64 l.length→fr 54=.int .i64 j →
  fu S0 S sv qs kv B→B+(l.length-j)≤4096 →
  (∀fr' S' kv',fr' 0=v→fr' 4=.ptr (S0.objs.length+1) 0→fr' 17=v→fr' 18=.int .i64 N→fr' 19=.int .i64 i→fu S0 S' sv qs kv' (B+(l.length-j)) →
   (∀k,k∈kv'.map (·.1)↔k∈kv.map (·.1)∨k∈(l.drop j).map dr)→Ok (aF T K fr' S') Q)→Ok (aF T (.lp rS::.blk 2::K) fr S) Q:=by
 intro n
 induction n with
 |zero=>
  intro j hnj hjl B fr S kv h0 h4 h5 h17 h18 h19 h52 h53 h54 hA hB k;have hj:j=l.length:=by omega
  rw[bH];simp -implicitDefEqProofs [h52,h53,h54,hj];refine k _ _ kv (by simp[h0]) (by simp[h4]) (by simp[h17]) (by simp[h18]) (by simp[h19]) (by rw[hj,Nat.sub_self];exact hA) (fun x=>?_)
  rw[hj,List.drop_length];simp
 |succ n ih=>
  intro j hnj hjl B fr S kv h0 h4 h5 h17 h18 h19 h52 h53 h54 hA hB k;have hj:j<l.length:=by omega
  have hget:=hlv.get j (by simpa using hj) .i64;have hx:(l.map az)[j]'(by simpa using hj)=az l[j]:=by simp
  rw[hx,oW]at hget;have hw:IntKind.i64.wrap ((j:Int)+1)=((j+1:Nat):Int):=by rw[bT]<;>omega
  have hpo:∀{a b:PV},ap true 2 [a,b]=some (.agg [a,b]):=fun {a b}=>rfl;have hp1:∀{a:PV} {m:List PV},ap false 1 (a::m)=some a:=fun {a m}=>by simp[ap]
  have hom:=(aL.1 hA.om).1;have hox:=(aL.1 hA.ox).1;have hox2:∀t,(S.objs++t)[S0.objs.length+1]?=some [sv,.map S0.objs.length]:=fun t=>by rw[aw hox];exact hA.ox
  have hom2:∀t,(S.objs++t)[S0.objs.length]?=some (cQ kv):=fun t=>by rw[aw hom];exact hA.om
  have hld:∀t tt ag n off,cO ⟨S.objs++t,tt⟩ ag n (.ptr (S0.objs.length+1) off)=ap ag n ([sv,.map S0.objs.length].drop off):=fun t tt ag n off=>dG (hox2 t);have hk1:∀S',cK true S' (.agg [.str l[j].1,.str l[j].2.1])=true:=fun _=>rfl;have hk2:=fun(S':St) (m:List (K2×PV))=>zt S' m;have hev:∀m:List (K2×PV),(cQ m).length%2=0:=fun m=>by rw[uL];omega
  have hpf:cL (.agg [.str l[j].1,.str l[j].2.1]) (cQ kv)=eu (dr l[j]) kv:=zr (dr l[j]) kv;have hpp:∀(m:List (K2×PV)) (u:PV),ci (.agg [.str l[j].1,.str l[j].2.1]) u (cQ m)=cQ (dC (dr l[j]) u m):=fun m u=>zs (dr l[j]) u m;obtain⟨X,hX⟩:∃X:List (List PV),X=[[PV.str l[j].1,PV.str l[j].2.1],[PV.str l[j].1,PV.str l[j].2.1]]:=⟨_,rfl⟩;have htl:=hA.tl
  obtain⟨v',S',a1,a2,a3,a4,a5,a6⟩:=(hA.posts.more ⟨(S.objs++X).set S0.objs.length (cQ (dC (dr l[j]) ((eu (dr l[j]) kv).getD .nils) kv)++[.und]),S.tips++[(1,1)]⟩ [(1,1)] rfl).put (by simp;omega) (by omega)
   (fun i e=>by simp only[ak];have:=hA.swt i e;omega) (dr l[j]) (.int .i64 i)
  have hol:S0.objs.length<(S.objs++X).length:=by simp;omega
  have hself:∀c:List PV,((S.objs++X).set S0.objs.length c)[S0.objs.length]?=some c:=fun c=>dd hol;have hX1:X[1]?=some [PV.str l[j].1,PV.str l[j].2.1]:=by rw[hX];rfl
  have hlast:∀m:List (K2×PV),((cQ m).length+1)%2=1:=fun m=>by rw[uL];omega
  rw[bH];simp -implicitDefEqProofs [h0,h4,h5,h17,h18,h19,h52,h53,h54,hj,hget,hpo,hp1,aH,bB,cx,eP,aQ,ff,hld,hom2,hk1,hk2,hev,hpf,hpp,←hX,hX1,a1,a3,hself,zw,hlast];refine ih (j+1) (by omega) (by omega) (B+1) _ _ (dC (dr l[j]) v' kv) (by simp[h0]) (by simp[h4]) (by simp[h5]) (by simp[h17]) (by simp[h18]) (by simp[h19]) (by simp[h52]) (by simp[h53]) (by simp[hw]) ?_ (by omega) (fun fr' S2 kv2 g0 g4 g17 g18 g19 gA gk=>?_)
  ·refine⟨?_,?_,?_,fun i e=>?_,?_,?_,?_,?_⟩
   ·simp only;rw[List.take_set_of_le (aR _),jW (by omega)];exact hA.pre
   ·simp only;rw[a4];simp only;rw[jW htl];exact hA.tpre
   ·simp only[ak,bE,cP]at a5 ⊢;omega
   ·have:=hA.swt i e;simp only[ak,bE,cP]at a5 ⊢;omega
   ·exact hself _
   ·simp only;rw[bq (by omega)];exact hox2 X
   ·exact(a6 1 qs (hA.sets.more _ [(1,1)] rfl)).more _ [] (by simp)
   ·exact a2.more _ [] (by simp)
  ·refine k fr' S2 kv2 g0 g4 g17 g18 g19 (by rw[show B+(l.length-j)=B+1+(l.length-(j+1))by omega];exact gA) (fun q=>?_);rw[gk q,zx]
   have hd:(l.drop j).map dr=dr l[j]::(l.drop (j+1)).map dr:=by
    rw[zL hj];rfl
   rw[hd,cY];split
   ·rename_i hm;constructor
    ·rintro(h|h)
     ·exact .inl h
     ·exact .inr (.inr h)
    ·rintro(h|h|h)
     ·exact .inl h
     ·subst h;exact .inl hm
     ·exact .inr h
   ·rw[bn,qk,or_assoc]
end Ps
