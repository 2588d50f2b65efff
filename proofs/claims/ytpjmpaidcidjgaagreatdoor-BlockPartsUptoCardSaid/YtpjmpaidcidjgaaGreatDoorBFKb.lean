/- An index is made: walked. -/
import Derived.Test.YtpjmpaidcidjgaaGreatDoorDefsKb
import Derived.Test.YtpjmpaidcidjgaaGreatDoorBDKb
set_option linter.defProp false
namespace Ps
set_option linter.unusedSimpArgs false
set_option linter.unusedVariables false
open Go
def fL(S:St)(sz n0:Nat)(v:PV)(es:List PV):Prop:=(v=.nils∧es=[])∨∃id,n0≤id∧v=.sl (some (id,es.length)) es []∧S.tips[id]?=some (es.length,sz)
def du:PV→Option Nat
 |.sl (some (id,_)) _ _=>some id
 |_=>none
def fL.reads{S:St}{sz n0:Nat}{v:PV}{es:List PV}(h:fL S sz n0 v es)(hc:∀e∈es,e.cells.length=sz):cM sz v es:=by
 rcases h with⟨rfl,rfl⟩|⟨id,_,rfl,_⟩
 ·exact Ck sz
 ·exact tT hc
def fL.one{S:St}{sz n0:Nat}{v:PV}{es:List PV}(h:fL S sz n0 v es):v.one=true∧v.cells=[v]:=by
 rcases h with⟨rfl,rfl⟩|⟨id,_,rfl,_⟩<;>exact⟨rfl,rfl⟩
def FE(S:St)(sz n0:Nat):fL S sz n0 .nils []:=.inl ⟨rfl,rfl⟩
def fL.more{S:St}{sz n0:Nat}{v:PV}{es:List PV}(h:fL S sz n0 v es)(S':St)(t:List (Nat×Nat))(e:S'.tips=S.tips++t):fL S' sz n0 v es:=by
 rcases h with h|⟨id,h1,h2,h3⟩
 ·exact .inl h
 ·exact .inr ⟨id,h1,h2,by rw[e,bK (aM.1 h3).1];exact h3⟩
def fL.lt{S:St}{sz n0:Nat}{v:PV}{es:List PV}(h:fL S sz n0 v es){i:Nat}(e:du v=some i):i<S.tips.length∧n0≤i:=by
 rcases h with⟨rfl,_⟩|⟨id,h1,rfl,h3⟩
 ·cases e
 ·cases e;exact⟨(aM.1 h3).1,h1⟩
def fL.push{S:St}{sz n0 bytes:Nat}{v:PV}{es:List PV}(h:fL S sz n0 v es)(hn:n0≤S.tips.length)(e:PV)(hb:(es.length+1)*bytes≤140737488355328) :
  ∃v' S',eh sz bytes S v [e]=some (v',S')∧fL S' sz n0 v' (es++[e])∧S'.objs=S.objs∧S'.tips.take n0=S.tips.take n0∧S.tips.length≤S'.tips.length∧(du v'=du v∨du v'=some S.tips.length)∧du v'≠none ∧
   ∀sz' u qs,fL S sz' n0 u qs→(du u=none∨du u≠du v)→fL S' sz' n0 u qs:=by
 rcases h with⟨rfl,rfl⟩|⟨id,h1,rfl,h3⟩
 ·refine⟨.sl (some (S.tips.length,1)) [e] [],⟨S.objs,S.tips++[(1,sz)]⟩,?_,.inr ⟨S.tips.length,hn,rfl,by simp⟩,rfl,by simp[lO hn],by simp,.inr rfl,by simp[du],fun sz' u qs hu _=>hu.more _ _ rfl⟩;have:bytes≤140737488355328:=by simpa using hb
  simp[eh,dy,this]
 ·have hl:=(aM.1 h3).1;refine⟨.sl (some (id,es.length+1)) (es++[e]) [],⟨S.objs,S.tips.set id (es.length+1,sz)⟩,?_,.inr ⟨id,h1,by simp,by simp[hl]⟩,rfl,?_,by simp,.inl rfl,by simp[du],fun sz' u qs hu hne=>?_⟩
  ·simp[eh,h3,hb]
  ·simp only;rw[List.take_set_of_le h1]
  ·rcases hu with h|⟨id',k1,rfl,k3⟩
   ·exact .inl h
   ·have:id'≠id:=by
     rcases hne with h|h
     ·cases h
     ·exact fun e=>h (by rw[e];rfl)
    exact .inr ⟨id',k1,rfl,by simp only;rw[bU (Ne.symm this)];exact k3⟩
abbrev K2:=List UInt8×List UInt8
def fM(k:K2):PV:=.agg [.str k.1,.str k.2]
def cR(l:List (K2×PV)):List PV:=l.flatMap fun e=>[fM e.1,e.2]
def gW(k:K2):List (K2×PV)→Option PV
 | []=>none
 |e::l=>if e.1=k then some e.2 else gW k l
def eC(k:K2)(v:PV):List (K2×PV)→List (K2×PV)
 | []=>[(k,v)]
 |e::l=>if e.1=k then(k,v)::l else e::eC k v l
def FF(a b:K2):PV.beq (fM a) (fM b)=decide (a=b):=by
 obtain⟨a1,a2⟩:=a;obtain⟨b1,b2⟩:=b;rw[rK];simp[fM,PV.beq,PV.beqL]
def yP(l:List (K2×PV)):(cR l).length=2*l.length:=by
 induction l with
 |nil=>rfl
 |cons e l ih=>simp only[cR,dd,am,bL,cW]at ih ⊢;rw[show(List.flatMap (fun e=>[fM e.1,e.2]) l).length=2*l.length from ih];omega
theorem FG(k:K2):∀l:List (K2×PV),dM (fM k) (cR l)=gW k l
 | []=>rfl
 |e::l=>by
  show(if PV.beq (fM e.1) (fM k)=true then some e.2 else dM (fM k) (cR l))=_;rw[FF,FG k l];simp[gW]
theorem FH(k:K2)(v:PV):∀l:List (K2×PV),dg (fM k) v (cR l)=cR (eC k v l)
 | []=>rfl
 |e::l=>by
  show(if PV.beq (fM e.1) (fM k)=true then fM k::v::cR l else fM e.1::e.2::dg (fM k) v (cR l))=_;rw[FF,FH k v l];by_cases h:e.1=k
  ·simp[eC,h,cR]
  ·simp[eC,h,cR]
theorem FI(S:St):∀l:List (K2×PV),fP true S (cR l)=true
 | []=>rfl
 |e::l=>by
  show(dL true S (fM e.1)&&fP true S (cR l))=true;rw[FI S l];rfl
theorem FJ(k:K2)(u v:PV):∀l:List (K2×PV),eC k v (eC k u l)=eC k v l
 | []=>by simp[eC]
 |e::l=>by
  by_cases h:e.1=k
  ·simp[eC,h]
  ·simp[eC,h,FJ k u v l]
def FK(k:K2)(v:PV)(l:List (K2×PV)):(eC k v l).map (·.1)=if k∈l.map (·.1)then l.map (·.1)else l.map (·.1)++[k]:=by
 induction l with
 |nil=>simp[eC]
 |cons e l ih=>
  by_cases h:e.1=k
  ·simp[eC,h]
  ·have h':¬k=e.1:=fun q=>h q.symm;simp only[eC,if_neg h,cb,ih,dI,h',false_or];split<;>simp
def yQ{k:K2}{v:PV}{l:List (K2×PV)}{e:K2×PV}(h:e∈eC k v l):e=(k,v)∨(e∈l∧(e.1≠k∨¬(l.map (·.1)).Nodup)):=by
 induction l with
 |nil=>simp[eC]at h;exact .inl h
 |cons a l ih=>
  by_cases ha:a.1=k
  ·simp only[eC,if_pos ha,dI]at h;rcases h with h|h
   ·exact .inl h
   ·refine .inr ⟨by simp[h],?_⟩;by_cases he:e.1=k
    ·right;simp only[cb,pV,not_and];intro q;exact absurd (List.mem_map.2 ⟨e,h,by rw[he,ha]⟩) q
    ·exact .inl he
  ·simp only[eC,if_neg ha,dI]at h;rcases h with rfl|h
   ·exact .inr ⟨by simp,.inl ha⟩
   ·rcases ih h with h|⟨h1,h2⟩
    ·exact .inl h
    ·refine .inr ⟨by simp[h1],h2.imp id fun q q'=>?_⟩;simp only[cb,pV]at q';exact q q'.2
theorem rZ{k:K2}{v:PV}:∀{l:List (K2×PV)},gW k l=some v→(k,v)∈l
 |e::l,h=>by
  by_cases he:e.1=k
  ·simp only[gW,if_pos he,ap]at h;subst h;subst he;simp
  ·simp only[gW,if_neg he]at h;exact List.mem_cons_of_mem _ (rZ h)
structure kj(S:St)(n0:Nat)(B:Nat)(w:PV)(l:List (K2×PV)):Prop where
 keys:(l.map (·.1)).Nodup
 own:∀e∈l,∃qs,fL S 1 n0 e.2 qs∧qs.length≤B∧du e.2≠none
 dist:l.Pairwise fun a b=>du a.2≠du b.2
 apart:∀e∈l,du e.2≠du w
def kj.more{S:St}{n0 B:Nat}{w:PV}{l:List (K2×PV)}(h:kj S n0 B w l)(S':St)(t:List (Nat×Nat))(e:S'.tips=S.tips++t):kj S' n0 B w l:=
 ⟨h.keys,fun x hx=>by obtain⟨qs,h1,h2,h3⟩:=h.own x hx;exact⟨qs,h1.more S' t e,h2,h3⟩,h.dist,h.apart⟩
def kj.le{S:St}{n0 B B':Nat}{w:PV}{l:List (K2×PV)}(h:kj S n0 B w l)(hb:B≤B'):kj S n0 B' w l:=
 ⟨h.keys,fun x hx=>by obtain⟨qs,h1,h2,h3⟩:=h.own x hx;exact⟨qs,h1,Nat.le_trans h2 hb,h3⟩,h.dist,h.apart⟩
theorem FL{α:Type}{R:α→α→Prop}(hs:∀a b,R a b→R b a):∀{l:List α},l.Pairwise R→∀a∈l,∀b∈l,a≠b→R a b
 | [],_,a,ha,_,_,_=>by simp at ha
 |x::l,h,a,ha,b,hb,hne=>by
  obtain⟨h1,h2⟩:=uQ.1 h;rcases dI.1 ha with ea|ha1
  ·rcases dI.1 hb with eb|hb1
   ·exact absurd (ea.trans eb.symm) hne
   ·rw[ea];exact h1 b hb1
  ·rcases dI.1 hb with eb|hb1
   ·rw[eb];exact hs _ _ (h1 a ha1)
   ·exact FL hs h2 a ha1 b hb1 hne
theorem FM{k:K2}{v:PV}{R:K2×PV→K2×PV→Prop}(hs:∀a b,R a b→R b a):∀{l:List (K2×PV)},(l.map (·.1)).Nodup→l.Pairwise R→(∀e∈l,e.1≠k→R e (k,v))→(eC k v l).Pairwise R
 | [],_,_,_=>by simp[eC]
 |a::l,hn,hp,hk=>by
  simp only[cb,pV]at hn;obtain⟨hp1,hp2⟩:=uQ.1 hp;by_cases ha:a.1=k
  ·simp only[eC,if_pos ha];refine uQ.2 ⟨fun e he=>hs _ _ (hk e (by simp[he]) (fun q=>hn.1 (List.mem_map.2 ⟨e,he,by rw[q,ha]⟩))),hp2⟩
  ·simp only[eC,if_neg ha];refine uQ.2 ⟨fun e he=>?_,FM hs hn.2 hp2 (fun e he=>hk e (by simp[he]))⟩;rcases yQ he with rfl|⟨h1,_⟩
   ·exact hk a (by simp) ha
   ·exact hp1 e h1
def kj.put{S:St}{n0 B:Nat}{w:PV}{l:List (K2×PV)}(h:kj S n0 B w l)(hn:n0≤S.tips.length)(hB:(B+1)*8≤140737488355328)(hw:∀i,du w=some i→i<S.tips.length)(k:K2)(x:PV) :
  ∃v' S',eh 1 8 S ((gW k l).getD .nils) [x]=some (v',S')∧kj S' n0 (B+1) w (eC k v' l)∧S'.objs=S.objs∧S'.tips.take n0=S.tips.take n0∧S.tips.length≤S'.tips.length ∧
   ∀sz es,fL S sz n0 w es→fL S' sz n0 w es:=by
 have hv0:∃qs,fL S 1 n0 ((gW k l).getD .nils) qs∧qs.length≤B∧((gW k l).getD .nils=.nils∧gW k l=none∨gW k l=some ((gW k l).getD .nils)):=by
  cases hl:gW k l with
  |none=>exact⟨[],FE _ _ _,cP _,.inl ⟨rfl,rfl⟩⟩
  |some v=>
   obtain⟨qs,h1,h2,h3⟩:=h.own (k,v) (rZ hl);exact⟨qs,h1,h2,.inr rfl⟩
 obtain⟨qs,ho,hq,hcase⟩:=hv0;obtain⟨v',S',a1,a2,a3,a4,a5,a6,a7,a8⟩:=ho.push hn x (bytes:=8) (by omega)
 have hoth:∀e∈l,e.1≠k→du e.2≠du ((gW k l).getD .nils)∧du e.2≠du v':=by
  intro e he hne;obtain⟨qe,h1,h2,h3⟩:=h.own e he
  have hd:du e.2≠du ((gW k l).getD .nils):=by
   rcases hcase with⟨h4,_⟩|h4
   ·rw[h4];exact h3
   ·have hm:=rZ h4
    have hp:∀a∈l,∀b∈l,a≠b→du a.2≠du b.2:=by
     intro a ha b hb hab;exact FL (fun a b q=>Ne.symm q) h.dist a ha b hb hab
    exact hp e he _ hm (fun q=>hne (by rw[q]))
  refine⟨hd,?_⟩;rcases a6 with q|q
  ·rw[q];exact hd
  ·intro q2;rw[q]at q2;have:=(h1.lt q2).1;omega
 refine⟨v',S',a1,⟨?_,fun e he=>?_,?_,fun e he=>?_⟩,a3,a4,a5,fun sz es hw'=>?_⟩
 ·rw[FK];split
  ·exact h.keys
  ·rename_i hk;exact Ea.2 ⟨h.keys,by simp,fun a ha b hb=>by simp at hb;subst hb;exact fun q=>hk (q▸ha)⟩
 ·rcases yQ he with rfl|⟨h1,h2|h2⟩
  ·exact⟨_,a2,by simp;omega,a7⟩
  ·obtain⟨qe,k1,k2,k3⟩:=h.own e h1;exact⟨qe,a8 1 e.2 qe k1 (.inr (hoth e h1 h2).1),by omega,k3⟩
  ·exact absurd h.keys h2
 ·exact FM (fun a b q=>Ne.symm q) h.keys h.dist (fun e he hne=>(hoth e he hne).2)
 ·rcases yQ he with rfl|⟨h1,_⟩
  ·simp only;rcases a6 with q|q
   ·rw[q];rcases hcase with⟨h4,h5⟩|h4
    ·rw[q,h4]at a7;exact absurd rfl a7
    ·exact h.apart _ (rZ h4)
   ·rw[q];intro q2;have:=hw _ q2.symm;omega
  ·exact h.apart e h1
 ·refine a8 sz w es hw' ?_;rcases hcase with⟨h4,h5⟩|h4
  ·cases hq2:du w with
   |none=>exact .inl rfl
   |some i=>right;rw[h4];simp[du]
  ·exact .inr (Ne.symm (h.apart _ (rZ h4)))
end Ps
set_option linter.defProp false
namespace Ps
set_option linter.unusedSimpArgs false
set_option linter.unusedVariables false
open Go
def FN:T.fn 130=some (.code z5):=rfl
def yR:T.fn 51=some (.code oM):=rfl
def Wm(l:List aQ):∀e∈l.map bH,e.cells.length=2∧e.cells.all PV.one=true:=by
 intro e he;obtain⟨x,_,rfl⟩:=List.mem_map.1 he;exact⟨rfl,rfl⟩
def FO:gD false .s .nils=some (.bool true):=rfl
def uj{tip:Option (Nat×Nat)}{es sp:List PV}:gD false .s (.sl tip es sp)=some (.bool false):=rfl
def FP{v:PV}{l:List aQ}(h:ba 2 v (l.map bH))(hb:l.length≤4000000000):∃v',(∀S,aN T 130 [v] S=some (v',S))∧ay 2 v' (l.map bH):=by
 have happ:=fun S=>h.appdS (S:=S);rcases h with⟨rfl,he⟩|⟨tip,sp,rfl,_⟩
 ·refine⟨.nils,fun S=>?_,by rw[he];exact jn 2⟩;refine bZ FN rfl ?_;simp -implicitDefEqProofs [z5,FO];exact cZ (aL.refl S) rfl
 ·refine⟨.sl none (l.map bH) [],fun S=>?_,od (rX l) (yI l) (ua l)⟩;refine bZ FN rfl ?_
  cases l with
  |nil=>
   simp -implicitDefEqProofs [z5,uj,happ,gt,aG]
   exact qX (aL.refl S) (SS (k:=39))
  |cons x l=>
   have h32:(l.length+1)*32≤140737488355328:=by simp only[bL]at hb;omega
   simp -implicitDefEqProofs [z5,uj,happ,gt,kx,aG,h32];have hcs:(PV.str x.fst::PV.str x.snd.fst::List.flatMap PV.cells (List.map bH l))=(List.map bH (x::l)).flatMap PV.cells:=rfl;rw[hcs];have hfl:((List.map bH (x::l)).flatMap PV.cells).length=(l.length+1)*2:=by rw[Ca (rX (x::l))];simp
   have hfree:PV.freeL ((List.map bH (x::l)).flatMap PV.cells)=true:=il fun c hc=>by
    obtain⟨e,he,hce⟩:=List.mem_flatMap.1 hc;obtain⟨y,_,rfl⟩:=List.mem_map.1 he;simp at hce;rcases hce with rfl|rfl<;>rfl
   have hch:db 2 (l.length+1) ((List.map bH (x::l)).flatMap PV.cells)=List.map bH (x::l):=by
    have:=SQ (sz:=2) (by omega) (l:=(x::l).map fun y=>[PV.str y.1,PV.str y.2.1]) (fun c hc=>by obtain⟨y,_,rfl⟩:=List.mem_map.1 hc;rfl) (r:=[]);rw[bz,eP]at this
    have e1:((x::l).map fun y:aQ=>[PV.str y.1,PV.str y.2.1]).flatten=(List.map bH (x::l)).flatMap PV.cells:=by
     simp[EW,Function.comp_def]
    rw[e1]at this;show db 2 (x::l).length _=_;rw[this,pT];rfl
   have:=qX (S:=S) (S1:=⟨S.objs++[(List.map bH (x::l)).flatMap PV.cells],S.tips⟩) (r:=.osl S.objs.length 0 (l.length+1) 2) ((aL.refl S).obj _)
    (Cc (k:=39) (aU _) (by omega) (by simp) hfl (SP fun e he=>(Wm _ e he).2) (wV hfree) hch)
   rw[this];simp[PV.frz,ua,PV.frzL]
def fW(x:aQ):K2:=(x.1,x.2.1)
structure ia(S0 S:St)(sv:PV)(qs:List PV)(kv:List (K2×PV))(B:Nat):Prop where
 pre:S.objs.take S0.objs.length=S0.objs
 tpre:S.tips.take S0.tips.length=S0.tips
 tl:S0.tips.length≤S.tips.length
 swt:∀i,du sv=some i→i<S.tips.length
 om:S.objs[S0.objs.length]?=some (cR kv)
 ox:S.objs[S0.objs.length+1]?=some [sv,.map S0.objs.length]
 sets:fL S 1 S0.tips.length sv qs
 posts:kj S S0.tips.length B sv kv
def ia.more{S0 S:St}{sv:PV}{qs:List PV}{kv:List (K2×PV)}{B:Nat}(h:ia S0 S sv qs kv B)(o:List (List PV))(t:List (Nat×Nat)):ia S0 ⟨S.objs++o,S.tips++t⟩ sv qs kv B:=by
 have h1:=(aM.1 h.om).1;have h2:=(aM.1 h.ox).1
 exact⟨by simp only;rw[lO (by omega)];exact h.pre,by simp only;rw[lO h.tl];exact h.tpre,by simp only[am];have:=h.tl;omega,fun i e=>by simp only[am];have:=h.swt i e;omega,
  by simp only;rw[bK h1];exact h.om,by simp only;rw[bK h2];exact h.ox,h.sets.more _ t rfl,h.posts.more _ t rfl⟩
def Wn{l:List aQ}{lv v:PV}(hlv:cM 2 lv (l.map bH))(hl:l.length≤8){S0:St}{i N:Nat}{sv:PV}{qs:List PV}{K:List Kt}{Q:Fr→St→Prop}:∀(n j:Nat),l.length-j=n→j≤l.length→∀(B:Nat) (fr:Fr) (S:St) (kv:List (K2×PV)),
  fr 0=v→fr 4=.ptr (S0.objs.length+1) 0→fr 5=.int .i64 i→fr 17=v→fr 18=.int .i64 N→fr 19=.int .i64 i→fr 52=lv→fr 53=.int .i64 l.length→fr 54=.int .i64 j →
  ia S0 S sv qs kv B→B+(l.length-j)≤4096 →
  (∀fr' S' kv',fr' 0=v→fr' 4=.ptr (S0.objs.length+1) 0→fr' 17=v→fr' 18=.int .i64 N→fr' 19=.int .i64 i→ia S0 S' sv qs kv' (B+(l.length-j)) →
   (∀k,k∈kv'.map (·.1)↔k∈kv.map (·.1)∨k∈(l.drop j).map fW)→Ok (aE T K fr' S') Q)→Ok (aE T (.lp vb::.blk 2::K) fr S) Q:=by
 intro n
 induction n with
 |zero=>
  intro j hnj hjl B fr S kv h0 h4 h5 h17 h18 h19 h52 h53 h54 hA hB k;have hj:j=l.length:=by omega
  rw[ax];simp -implicitDefEqProofs [h52,h53,h54,hj];refine k _ _ kv (by simp[h0]) (by simp[h4]) (by simp[h17]) (by simp[h18]) (by simp[h19]) (by rw[hj,yC];exact hA) (fun x=>?_)
  rw[hj,EQ];simp
 |succ n ih=>
  intro j hnj hjl B fr S kv h0 h4 h5 h17 h18 h19 h52 h53 h54 hA hB k;have hj:j<l.length:=by omega
  have hget:=hlv.get j (by simpa using hj) .i64;have hx:(l.map bH)[j]'(by simpa using hj)=bH l[j]:=by simp
  rw[hx,rV]at hget;have hw:IntKind.i64.wrap ((j:Int)+1)=((j+1:Nat):Int):=by rw[au]<;>omega
  have hpo:∀{a b:PV},bG true 2 [a,b]=some (.agg [a,b]):=fun {a b}=>rfl;have hp1:∀{a:PV} {m:List PV},bG false 1 (a::m)=some a:=fun {a m}=>by simp[bG]
  have hom:=(aM.1 hA.om).1;have hox:=(aM.1 hA.ox).1;have hox2:∀t,(S.objs++t)[S0.objs.length+1]?=some [sv,.map S0.objs.length]:=fun t=>by rw[bK hox];exact hA.ox
  have hom2:∀t,(S.objs++t)[S0.objs.length]?=some (cR kv):=fun t=>by rw[bK hom];exact hA.om
  have hld:∀t tt ag n off,dD ⟨S.objs++t,tt⟩ ag n (.ptr (S0.objs.length+1) off)=bG ag n ([sv,.map S0.objs.length].drop off):=fun t tt ag n off=>bI (hox2 t);have hk1:∀S',dL true S' (.agg [.str l[j].1,.str l[j].2.1])=true:=fun _=>rfl;have hk2:=fun(S':St) (m:List (K2×PV))=>FI S' m;have hev:∀m:List (K2×PV),(cR m).length%2=0:=fun m=>by rw[yP];omega
  have hpf:dM (.agg [.str l[j].1,.str l[j].2.1]) (cR kv)=gW (fW l[j]) kv:=FG (fW l[j]) kv;have hpp:∀(m:List (K2×PV)) (u:PV),dg (.agg [.str l[j].1,.str l[j].2.1]) u (cR m)=cR (eC (fW l[j]) u m):=fun m u=>FH (fW l[j]) u m;obtain⟨X,hX⟩:∃X:List (List PV),X=[[PV.str l[j].1,PV.str l[j].2.1],[PV.str l[j].1,PV.str l[j].2.1]]:=⟨_,rfl⟩;have htl:=hA.tl
  obtain⟨v',S',a1,a2,a3,a4,a5,a6⟩:=(hA.posts.more ⟨(S.objs++X).set S0.objs.length (cR (eC (fW l[j]) ((gW (fW l[j]) kv).getD .nils) kv)++[.und]),S.tips++[(1,1)]⟩ [(1,1)] rfl).put (by simp;omega) (by omega)
   (fun i e=>by simp only[am];have:=hA.swt i e;omega) (fW l[j]) (.int .i64 i)
  have hol:S0.objs.length<(S.objs++X).length:=by simp;omega
  have hself:∀c:List PV,((S.objs++X).set S0.objs.length c)[S0.objs.length]?=some c:=fun c=>cK hol;have hX1:X[1]?=some [PV.str l[j].1,PV.str l[j].2.1]:=by rw[hX];rfl
  have hlast:∀m:List (K2×PV),((cR m).length+1)%2=1:=fun m=>by rw[yP];omega
  rw[ax];simp -implicitDefEqProofs [h0,h4,h5,h17,h18,h19,h52,h53,h54,hj,hget,hpo,hp1,aG,ak,cY,dU,aR,dx,hld,hom2,hk1,hk2,hev,hpf,hpp,←hX,hX1,a1,a3,hself,FJ,hlast];refine ih (j+1) (by omega) (by omega) (B+1) _ _ (eC (fW l[j]) v' kv) (by simp[h0]) (by simp[h4]) (by simp[h5]) (by simp[h17]) (by simp[h18]) (by simp[h19]) (by simp[h52]) (by simp[h53]) (by simp[hw]) ?_ (by omega) (fun fr' S2 kv2 g0 g4 g17 g18 g19 gA gk=>?_)
  ·refine⟨?_,?_,?_,fun i e=>?_,?_,?_,?_,?_⟩
   ·simp only;rw[List.take_set_of_le (aU _),lO (by omega)];exact hA.pre
   ·simp only;rw[a4];simp only;rw[lO htl];exact hA.tpre
   ·simp only[am,bL,cW]at a5 ⊢;omega
   ·have:=hA.swt i e;simp only[am,bL,cW]at a5 ⊢;omega
   ·exact hself _
   ·simp only;rw[bU (by omega)];exact hox2 X
   ·exact(a6 1 qs (hA.sets.more _ [(1,1)] rfl)).more _ [] (by simp)
   ·exact a2.more _ [] (by simp)
  ·refine k fr' S2 kv2 g0 g4 g17 g18 g19 (by rw[show B+(l.length-j)=B+1+(l.length-(j+1))by omega];exact gA) (fun q=>?_);rw[gk q,FK]
   have hd:(l.drop j).map fW=fW l[j]::(l.drop (j+1)).map fW:=by
    rw[rM hj];rfl
   rw[hd,dI];split
   ·rename_i hm;constructor
    ·rintro(h|h)
     ·exact .inl h
     ·exact .inr (.inr h)
    ·rintro(h|h|h)
     ·exact .inl h
     ·subst h;exact .inl hm
     ·exact .inr h
   ·rw[bg,jW,or_assoc]
end Ps
