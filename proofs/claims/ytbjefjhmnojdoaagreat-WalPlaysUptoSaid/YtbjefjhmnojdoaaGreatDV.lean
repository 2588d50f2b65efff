/- The disk, for other seats: what is used of it besides. -/
import Derived.Test.YtbjefjhmnojdoaaGreatDefs
import Derived.Test.YtbjefjhmnojdoaaGreatDI
set_option linter.defProp false
namespace Ps
set_option linter.unusedSimpArgs false
set_option linter.unusedVariables false
open Go
def Ul(x:di)(l:List (Nm×Nat)):Prop:=x.2.2=none→(lk x.1 l).isSome=true
def okA:List di→List (Nm×Nat)→Prop
 | [],_=>True
 |x::xs,l=>Ul x l∧okA xs (doE x l)
def doA:List di→List (Nm×Nat)→List (Nm×Nat)
 | [],l=>l
 |x::xs,l=>doA xs (doE x l)
theorem Um:∀(a b:List di) (l:List (Nm×Nat)),doA (a++b) l=doA b (doA a l)
 | [],b,l=>rfl
 |x::a,b,l=>Um a b _
theorem Ct:∀(a b:List di) (l:List (Nm×Nat)),okA (a++b) l↔okA a l∧okA b (doA a l)
 | [],b,l=>by simp[okA,doA]
 |x::a,b,l=>by simp only[jx,okA,doA,Ct a b _,and_assoc]
def ib.okA{b l:List (Nm×Nat)}{w:List di}(h:ib b w l):Ps.okA w b∧l=doA w b:=by
 induction h with
 |nil=>exact⟨trivial,rfl⟩
 |snoc w l x _ hx ih=>
  obtain⟨i1,i2⟩:=ih;rw[Ct,Um,←i2];exact⟨⟨i1,hx,trivial⟩,rfl⟩
theorem Un{b:List (Nm×Nat)}:∀(xs w:List di) (l:List (Nm×Nat)),ib b w l→okA xs l→ib b (w++xs) (doA xs l)
 | [],w,l,h,_=>by rw[cI];exact h
 |x::xs,w,l,h,hx=>by
  have:=Un xs (w++[x]) (doE x l) (.snoc _ _ _ _ h hx.1) hx.2;rw[iv]at this;exact this
def Cu{w:List di}{l:List (Nm×Nat)}(h:okA w l)(k:Nat):okA (w.take k) l:=by
 rw[←sk k w,Ct]at h;exact h.1
def lJ(D:Dk)(k:Nat):List (Nm×Nat):=doA (D.wait.take k) D.base
def At.histK{S:St}{o K:Nat}{D:Dk}(h:At S o K D)(k:Nat):ib D.base (D.wait.take k) (lJ D k):=by
 have:=Un (D.wait.take k) [] D.base (.nil _) (Cu h.hist.okA.1 k);rw[eE]at this;exact this
def At.dirF{S:St}{o K:Nat}{D:Dk}(h:At S o K D)(k:Nat):∀p∈lJ D k,p.2∈D.fl:=(h.histK k).files h.inb (fun x hx f hf=>h.inw x (jz hx) f hf)
def At.dirN{S:St}{o K:Nat}{D:Dk}(h:At S o K D)(k:Nat):∀p∈lJ D k,p.1.length≤24:=(h.histK k).names h.nb (fun x hx=>h.nw x (jz hx))
def At.dirL{S:St}{o K:Nat}{D:Dk}(h:At S o K D)(k:Nat):(lJ D k).length≤K:=by
 have h1:=(h.histK k).len;have h2:=h.cnt;have h3:(D.wait.take k).length≤D.wait.length:=by rw[List.length_take];omega
 omega
def aA2{o:Nat}{D:Dk}(hne:o≠D.bi){K:List Kt}{Q:Fr→St→Prop}{ws:List di}{v:PV}(hv:bT 3 v (ws.map cn))(hl:ws.length≤1048576) :
  ∀(rest pre:List di),ws=pre++rest→∀(l:List (Nm×Nat)) (fr:Fr) (S:St),okA rest l→S.objs[o]?=some (ax D)→S.objs[D.bi]?=some (cE l) →
  fr 0=.ptr o 0→fr 36=v→fr 37=.int .i64 ws.length→fr 38=.int .i64 pre.length →
  (∀fr' S',fr' 0=fr 0∧fr' 2=fr 2→S'.tips=S.tips→S'.objs[D.bi]?=some (cE (doA rest l))→(∀(i:Nat) (c:List PV),i≠D.bi→S.objs[i]?=some c→S'.objs[i]?=some c)→Ok (aJ T K fr' S') Q) →
  Ok (aJ T (.lp xQ::.blk 0::K) fr S) Q:=by
 intro rest
 induction rest with
 |nil=>
  intro pre hp l fr S hok ho hb h0 h36 h37 h38 k;rw[cI]at hp;subst hp;rw[af];simp[h36,h37,h38]
  exact k _ _ (by simp) rfl hb (fun _ _ _ h=>h)
 |cons x rest ih=>
  intro pre hp l fr S hok ho hb h0 h36 h37 h38 k;have hi:pre.length<ws.length:=by rw[hp];simp
  have hg:=hv.get pre.length (by simpa using hi) .i64;have hgx:(ws.map cn)[pre.length]'(by simpa using hi)=cn x:=by simp[hp]
  rw[hgx,yJ]at hg;have hw:=dR (a:=pre.length) (by omega);obtain⟨S1,hS1⟩:∃S1:St,S1=⟨S.objs++[[.str x.1,.str x.2.1,gT x.2.2]],S.tips⟩:=⟨_,rfl⟩;have hgrow:∀{i:Nat} {c:List PV},S.objs[i]?=some c→S1.objs[i]?=some c:=fun {i c} hc=>by rw[hS1];simp only;rw[bP (aS.1 hc).1];exact hc
  have ho1:=hgrow ho;have hb1:=hgrow hb;have hdo:=UX hb1 ho1 hne (lH _) x hok.1;simp only[cn]at hdo;have ho1':=ho1;simp only[ax]at ho1';have hnew:S1.objs[S.objs.length]?=some [.str x.1,.str x.2.1,gT x.2.2]:=by rw[hS1];simp
  have hL:∀fr',fr' 0=fr 0∧fr' 2=fr 2→fr' 36=v→fr' 37=.int .i64 ws.length→fr' 38=.int .i64 ((pre.length+1:Nat):Int) →
    Ok (aJ T (.lp xQ::.blk 0::K) fr' ⟨S1.objs.set D.bi (cE (doE x l)),S1.tips⟩) Q:=by
   intro fr' g0 g36 g37 g38;refine ih (pre++[x]) (by simp[hp]) (doE x l) fr' _ hok.2 (by simp only;rw[ak (Ne.symm hne)];exact ho1) (da hb1) (by rw[g0.1];exact h0) g36 g37 (by simpa using g38) ?_;intro fr2 S2 q0 q1 q2 q3;refine k fr2 S2 ⟨q0.1.trans g0.1,q0.2.trans g0.2⟩ (by rw[q1,hS1]) q2 (fun i c hi hc=>?_);refine q3 i c hi ?_;simp only;rw[ak (Ne.symm hi)];exact hgrow hc
  clear k ih;rw[af];simp -implicitDefEqProofs [h0,h36,h37,h38,hi,hg,ek,aI,dg,aR,←hS1,aU hnew,aU ho1',hdo];exact hL _ (by simp) (by simp[h36]) (by simp[h37]) (by simp[hw])
def uM(n:Int):IntKind.u64.wrap n=n%18446744073709551616:=by simp[IntKind.wrap,IntKind.bits,IntKind.signed]
def aA3(n:Int):0≤IntKind.u64.wrap n:=by rw[uM];omega
def yM(n:Int)(m:Nat):(IntKind.u64.wrap n).tmod ((m:Int)+1)=(((IntKind.u64.wrap n).toNat%(m+1):Nat):Int):=by
 have h:=aA3 n;rw[oe h]
 push_cast
 rw[Int.toNat_of_nonneg h]
structure Fl(S:St)(D:Dk):Prop where
 file:∀f∈D.fl,S.objs[f]?=some [D.fv f,.int .i64 (D.fs f)]∧fi S 1 (D.fv f) (aL (D.fb f))∧D.fs f≤(D.fb f).length∧((D.fb f).length:Int)≤D.room
 tf:∀f∈D.fl,∀g∈D.fl,f≠g→∀k,cU (D.fv f)=some k→cU (D.fv g)≠some k
def aA4{S:St}{sz:Nat}:nf S sz none (.int .i64 (0:Nat)) (.int .i64 (0:Nat)) .nils=some (.nils,S):=rfl
def aA5{S:St}{sz:Nat}{tip:Nat×Nat}{es:List PV}{k:Nat}(hz:gG sz es=true)(hs:0<sz)(hk:k≤es.length) :
  nf S sz none (.int .i64 (k:Int)) (.int .i64 (k:Int)) (.sl (some tip) es [])=some (.sl (some (S.tips.length,k)) (es.take k) [],⟨S.objs,S.tips++[(k,sz)]⟩):=by
 have h1:(0:Int)≤k∧(k:Int)≤((es.length:Nat):Int):=by omega
 simp[nf,hz,hs,fE,kD,hk]
def Fl.cut{S:St}{D:Dk}(h:Fl S D){f:Nat}(hf:f∈D.fl){k:Nat}(hk:k≤(D.fb f).length) :
  ∃v' tips',nf S 1 none (.int .i64 (k:Int)) (.int .i64 (k:Int)) (D.fv f)=some (v',⟨S.objs,tips'⟩)∧v'.cells=[v']∧v'.one=true∧Fl ⟨S.objs.set f [v',.int .i64 (k:Int)],tips'⟩ (dD D f v' ((D.fb f).take k) k) ∧
   S.tips.length≤tips'.length∧(∀i,i<S.tips.length→tips'[i]?=S.tips[i]?)∧(∀j,cU v'=some j→S.tips.length≤j):=by
 obtain⟨ho,hsl,hs,hr⟩:=h.file f hf
 have key:∀(v':PV) (tips':List (Nat×Nat)),fi ⟨[],tips'⟩ 1 v' (aL ((D.fb f).take k))→(∀i,i<S.tips.length→tips'[i]?=S.tips[i]?)→(∀j,cU v'=some j→S.tips.length≤j)→Fl ⟨S.objs.set f [v',.int .i64 (k:Int)],tips'⟩ (dD D f v' ((D.fb f).take k) k):=by
  intro v' tips' hw ht hj;refine⟨fun g hg=>?_,fun g hg i hi hgi j hgj=>?_⟩
  ·by_cases e:g=f
   ·subst e;simp only[dD,if_true];refine⟨da ho,hw.of (fun _ _=>rfl),by rw[List.length_take];omega,?_⟩;rw[List.length_take];omega
   ·simp only[dD,if_neg e];obtain⟨g1,g2,g3⟩:=h.file g hg;exact⟨by rw[ak (Ne.symm e)];exact g1,g2.of (fun j hj'=>ht j (g2.tip hj')),g3⟩
  ·by_cases e:g=f
   ·subst e;simp only[dD,if_true]at hgj;simp only[dD,if_neg (Ne.symm hgi)];intro hq;have:=(h.file i hi).2.1.tip hq;have:=hj j hgj;omega
   ·simp only[dD,if_neg e]at hgj;by_cases e2:i=f
    ·subst e2;simp only[dD,if_true];intro hq;have:=(h.file g hg).2.1.tip hgj;have:=hj j hq;omega
    ·simp only[dD,if_neg e2];exact h.tf g hg i hi hgi j hgj
 rcases hsl with⟨hv,hn⟩|⟨i,e,hv,ht⟩
 ·have hb:D.fb f=[]:=by simpa[aL]using hn
  have hk0:k=0:=by rw[hb]at hk;simpa using hk
  subst hk0;refine⟨.nils,S.tips,by rw[hv];exact aA4,rfl,rfl,key _ _ (.inl ⟨rfl,by simp[aL]⟩) (fun _ _=>rfl) (fun j hj=>by simp[cU]at hj),aj _,fun _ _=>rfl,fun j hj=>by simp[cU]at hj⟩
 ·have hl:(aL (D.fb f)).length=(D.fb f).length:=by simp[aL]
  have h1:∀i,i<S.tips.length→(S.tips++[(k,1)])[i]?=S.tips[i]?:=fun i hi=>bP hi;have h2:∀j,cU (.sl (some (S.tips.length,k)) ((aL (D.fb f)).take k) [])=some j→S.tips.length≤j:=fun j hj=>by simp only[cU,bU]at hj;omega
  refine⟨_,_,by rw[hv];exact aA5 (Cm _) (by omega) (by omega),rfl,rfl,key _ _ (.inr ⟨S.tips.length,k,by simp[aL,sd],by simp⟩) h1 h2,by simp,h1,h2⟩
def fJ(kept:List Int)(i:Nat)(b:List UInt8)(s:Nat):Nat:=if h:i<kept.length then s+(IntKind.u64.wrap kept[i]).toNat%(b.length-s+1)else s
def aA6(kept:List Int)(i:Nat)(b:List UInt8)(s:Nat):s≤fJ kept i b s:=by
 unfold fJ;split<;>omega
def Cv(kept:List Int)(i:Nat)(b:List UInt8)(s:Nat)(h:s≤b.length):fJ kept i b s≤b.length:=by
 unfold fJ;split
 ·have:=Nat.mod_lt (IntKind.u64.wrap kept[i]).toNat (y:=b.length-s+1) (by omega);omega
 ·exact h
def mR(l:List (Nm×Nat))(kept:List Int):Nat→List Nm→(Nat→List UInt8)→(Nat→Nat)→(Nat→List UInt8)×(Nat→Nat)
 |_,[],fb,fs=>(fb,fs)
 |i,n::ns,fb,fs=>match lk n l with
  |some f=>mR l kept (i+1) ns (fun g=>if g=f then(fb f).take (fJ kept i (fb f) (fs f))else fb g) (fun g=>if g=f then fJ kept i (fb f) (fs f)else fs g)
  |none=>mR l kept (i+1) ns fb fs
def aA7{o:Nat}{l:List (Nm×Nat)}{K:List Kt}{Q:Fr→St→Prop}{ns:List Nm}{v kv:PV}{kept:List Int}(hv:bT 1 v (ns.map .str))(hkv:bT 1 kv (kept.map (.int .i64)))(hl:ns.length≤1048576) :
  ∀(rest pre:List Nm),ns=pre++rest→(∀n∈rest,(lk n l).isSome=true)→∀(D:Dk) (fr:Fr) (S:St),S.objs[o]?=some (ax D)→S.objs[D.bi]?=some (cE l)→Fl S D→(∀p∈l,p.2∈D.fl)→(∀f∈D.fl,f≠o∧f≠D.bi)→D.room≤4194304 →
  fr 0=.ptr o 0→fr 2=kv→fr 54=v→fr 55=.int .i64 ns.length→fr 56=.int .i64 pre.length →
  (∀fr' S' fv',fr' 0=fr 0→Fl S' {D with fb:=(mR l kept pre.length rest D.fb D.fs).1,fs:=(mR l kept pre.length rest D.fb D.fs).2,fv:=fv'}→(∀(i:Nat),i∉D.fl→S'.objs[i]?=S.objs[i]?)→S.tips.length≤S'.tips.length→(∀i,i<S.tips.length→S'.tips[i]?=S.tips[i]?) →
   (∀f∈D.fl,∀k,cU (fv' f)=some k→cU (D.fv f)=some k∨S.tips.length≤k)→Ok (aJ T K fr' S') Q) →
  Ok (aJ T (.lp xR::.blk 2::K) fr S) Q:=by
 intro rest
 induction rest with
 |nil=>
  intro pre hp hin D fr S ho hb hF hlf hnd hroom h0 h2 h54 h55 h56 k;rw[cI]at hp;subst hp;rw[af];simp[h54,h55,h56]
  exact k _ _ D.fv (by simp) hF (fun _ _=>rfl) (aj _) (fun _ _=>rfl) (fun f hf j hj=>.inl hj)
 |cons n rest ih=>
  intro pre hp hin D fr S ho hb hF hlf hnd hroom h0 h2 h54 h55 h56 k;have hi:pre.length<ns.length:=by rw[hp];simp
  have hg:=hv.get pre.length (by simpa using hi) .i64;have hgx:(ns.map PV.str)[pre.length]'(by simpa using hi)=.str n:=by simp[hp]
  rw[hgx,ZQ]at hg;have hw:=dR (a:=pre.length) (by omega);obtain⟨f,hlk⟩:=my.1 (hin n (by simp));have hfind:=yE n l;rw[hlk]at hfind;have hfm:f∈D.fl:=hlf _ (ic hlk);obtain⟨hfo,hsl,hs,hr⟩:=hF.file f hfm;have hfl:=yL hsl;rw[Cs]at hfl;have hkl:=Cv kept pre.length (D.fb f) (D.fs f) hs;obtain⟨v',tips',c1,c2,c3,c4,c5,c6,c7⟩:=hF.cut hfm hkl;have hob:=ho;simp only[ax]at hob
  have hL:∀fr',fr' 0=fr 0→fr' 2=fr 2→fr' 54=fr 54→fr' 55=fr 55→fr' 56=.int .i64 ((pre.length+1:Nat):Int) →
    Ok (aJ T (.lp xR::.blk 2::K) fr' ⟨S.objs.set f [v',.int .i64 (fJ kept pre.length (D.fb f) (D.fs f):Int)],tips'⟩) Q:=by
   intro fr' g0 g2 g54 g55 g56;refine ih (pre++[n]) (by simp[hp]) (fun m hm=>hin m (by simp[hm])) (dD D f v' ((D.fb f).take (fJ kept pre.length (D.fb f) (D.fs f))) (fJ kept pre.length (D.fb f) (D.fs f))) fr' _ ?_ ?_ c4 hlf hnd hroom (by rw[g0,h0]) (by rw[g2,h2]) (by rw[g54,h54]) (by rw[g55,h55]) (by simpa using g56) ?_
   ·simp only;rw[ak (hnd f hfm).1];exact ho
   ·show(S.objs.set f _)[D.bi]?=_;rw[ak (hnd f hfm).2];exact hb
   ·intro fr2 S2 fv2 q0 q1 q2 q3 q4 q5;refine k fr2 S2 fv2 (q0.trans g0) ?_ (fun i hi=>?_) (Nat.le_trans c5 q3) (fun i hi=>(q4 i (by simp only;omega)).trans (c6 i hi)) (fun g hg j hj=>?_)
    ·simp only[mR,hlk];simp only[List.length_append,bV,cT]at q1;exact q1
    ·rw[q2 i hi];simp only;rw[ak (fun e=>hi (by rw[←e];exact hfm))]
    ·rcases q5 g hg j hj with q|q
     ·simp only[dD]at q;split at q
      ·exact .inr (c7 j q)
      ·exact .inl q
     ·exact .inr (Nat.le_trans c5 q)
  clear k ih;have hset:∀kk:Int,((S.objs.set f [v',.int .i64 (D.fs f:Int)]).set f [v',.int .i64 kk])=S.objs.set f [v',.int .i64 kk]:=fun kk=>by rw[Ad]
  rw[af];simp -implicitDefEqProofs [h0,h2,h54,h55,h56,hi,hg,aI,aU hob,hb,hfind,jF,fa,aU hfo,hkv.len];refine bX (fun hlt=>?_) (fun hge=>?_)
  ·have hlt:pre.length<kept.length:=by simpa using hlt
   have hgk:=hkv.get pre.length (by simpa using hlt) .i64;have hgx2:(kept.map (PV.int .i64))[pre.length]'(by simpa using hlt)=.int .i64 kept[pre.length]:=by simp
   rw[hgx2,oc]at hgk;have hcast:((D.fb f).length:Int)-(D.fs f:Int)=(((D.fb f).length-D.fs f:Nat):Int):=by omega
   have w1:IntKind.i64.wrap (((D.fb f).length:Int)-(D.fs f:Int))=(((D.fb f).length-D.fs f:Nat):Int):=by rw[bJ (by omega) (by omega),hcast]
   have w2:IntKind.i64.wrap ((((D.fb f).length-D.fs f:Nat):Int)+1)=(((D.fb f).length-D.fs f:Nat):Int)+1:=bJ (by omega) (by omega);have w3:IntKind.u64.wrap ((((D.fb f).length-D.fs f:Nat):Int)+1)=(((D.fb f).length-D.fs f:Nat):Int)+1:=by rw[uM];omega
   have w4:¬((((D.fb f).length-D.fs f:Nat):Int)+1=0):=by omega
   have hk:fJ kept pre.length (D.fb f) (D.fs f)=D.fs f+(IntKind.u64.wrap kept[pre.length]).toNat%((D.fb f).length-D.fs f+1):=by unfold fJ;rw[dif_pos hlt]
   obtain⟨r,hr'⟩:∃r:Nat,r=(IntKind.u64.wrap kept[pre.length]).toNat%((D.fb f).length-D.fs f+1):=⟨_,rfl⟩;rw[←hr']at hk;have hm:=yM kept[pre.length] ((D.fb f).length-D.fs f);rw[←hr']at hm;have w5:IntKind.i64.wrap (r:Int)=(r:Int):=bJ (by omega) (by omega);have w6:IntKind.i64.wrap ((D.fs f:Int)+(r:Int))=((fJ kept pre.length (D.fb f) (D.fs f):Nat):Int):=by rw[bJ (by omega) (by omega),hk];push_cast;rfl
   simp -implicitDefEqProofs [h0,h2,h54,h55,h56,hi,hg,hgk,aI,aU hfo,hfl,w1,w2,w3,w4,hm,w5,w6,c1,c2,c3,hfo,aR,da hfo];exact hL _ (by simp[h0]) (by simp[h2]) (by simp[h54]) (by simp[h55]) (by simp[hw])
  ·have hlt:¬pre.length<kept.length:=by simpa using hge
   have hk:fJ kept pre.length (D.fb f) (D.fs f)=D.fs f:=by unfold fJ;rw[dif_neg hlt]
   rw[hk]at c1 hL;simp -implicitDefEqProofs [h0,h2,h54,h55,h56,hi,hg,aI,aU hfo,hfl,c1,c2,c3,hfo,aR,da hfo];exact hL _ (by simp[h0]) (by simp[h2]) (by simp[h54]) (by simp[h55]) (by simp[hw])
end Ps
set_option linter.defProp false
namespace Ps
set_option linter.unusedSimpArgs false
set_option linter.unusedVariables false
open Go
def ig(D:Dk)(dirs:Int):Nat:=(IntKind.u64.wrap dirs).toNat%(D.wait.length+1)
def aA8(D:Dk)(dirs:Int):ig D dirs≤D.wait.length:=by
 have:=Nat.mod_lt (IntKind.u64.wrap dirs).toNat (y:=D.wait.length+1) (by omega);unfold ig;omega
def ii(l:List (Nm×Nat)):List Nm:=(l.map (·.1)).mergeSort leB
def Cw(D:Dk)(dirs:Int)(kept:List Int):(Nat→List UInt8)×(Nat→Nat):=mR (lJ D (ig D dirs)) kept 0 (ii (lJ D (ig D dirs))) D.fb D.fs
def fK(D:Dk)(li':Nat)(fv':Nat→PV)(dirs:Int)(kept:List Int):Dk:=
 {D with left:=-1,dark:=false,li:=li',base:=lJ D (ig D dirs),live:=lJ D (ig D dirs),wait:=[],wv:=.nils,fb:=(Cw D dirs kept).1,fs:=(Cw D dirs kept).2,fv:=fv'}
def aA9{l:List Nm}(h:l.isEmpty=true):l.mergeSort leB=[]:=by
 have:l=[]:=by simpa using h
 subst this;simp
def Uo(l:List (Nm×Nat)):bT 1 (mQ l) ((ii l).map .str):=by
 unfold mQ ii;split
 ·rename_i h;rw[aA9 h];exact ma _
 ·exact oG (fun e he=>by obtain⟨n,_,rfl⟩:=cD.1 he;rfl)
def Up(l:List (Nm×Nat)):(ii l).length=l.length:=by
 unfold ii;rw[(List.mergeSort_perm _ _).length_eq];simp
def aBa{l:List (Nm×Nat)}{n:Nm}(h:n∈ii l):(lk n l).isSome=true:=by
 have h2:n∈l.map (·.1):=(List.mergeSort_perm _ _).mem_iff.1 h;clear h
 induction l with
 |nil=>simp at h2
 |cons p l ih=>
  obtain⟨q,f⟩:=p;simp only[lk];by_cases e:(n==q)=true
  ·simp[e]
  ·simp only[e,if_false];rcases cX.1 h2 with h2|h2
   ·exact absurd (by simp[h2]) e
   ·simpa using ih h2
def aBb{S:St}{v:PV}{w:List di}(h:fi S 3 v (w.map cn)){k:Nat}(hk:k≤w.length):∃v',eQ 3 none (some (.int .u64 (k:Int))) v=some v'∧bT 3 v' ((w.take k).map cn):=by
 rcases h with⟨rfl,hn⟩|⟨i,e,rfl,_⟩
 ·have:w=[]:=by simpa using hn
  subst this;have:k=0:=by simpa using hk
  subst this;exact⟨.nils,rfl,ma _⟩
 ·have hz:gG 3 (w.map cn)=true:=oH (fun e he=>by obtain⟨x,_,rfl⟩:=cD.1 he;rfl);have hb:=pb (len:=(w.map cn).length) (cap:=(w.map cn).length) (h:=k) (k:=.u64) (by simpa using hk)
  have hq:eQ 3 none (some (.int .u64 (k:Int))) (.sl (some (i,e)) (w.map cn) [])=some (.sl (if k=(w.map cn).length then some (i,e)else none) (((w.map cn).take k).drop 0) ((w.map cn).drop k)):=by
   simp only[sX,cI,hz,vt,cF,if_false,cT,gB,hb]
  refine⟨_,hq,?_⟩;rw[oh,sd];exact oG (fun e he=>by obtain⟨x,_,rfl⟩:=cD.1 (jz he);rfl)
def aBc{S:St}{o K:Nat}{D:Dk}(h:At S o K D)(hK:K≤1048570){dirs:Int}{kept:List Int}{kv:PV}(hkv:bT 1 kv (kept.map (.int .i64))) :
  ∃li' fv' S',aO T 80 [.ptr o 0,.int .i64 dirs,kv] S=some (.int .i64 0,S')∧At S' o K (fK D li' fv' dirs kept)∧bj o S S' D (fK D li' fv' dirs kept)∧li'≠D.li:=by
 have hob:=h.obj;simp only[ax]at hob;have hkle:=aA8 D dirs;have hcnt:=h.cnt;have hwl:cz false D.wv=some (.int .i64 D.wait.length):=by have:=yL h.wv;simpa using this
 obtain⟨v1,hv1,hr1⟩:=aBb h.wv hkle;have hmod:=yM dirs D.wait.length;have w1:IntKind.i64.wrap ((D.wait.length:Int)+1)=(D.wait.length:Int)+1:=bJ (by omega) (by omega);have w2:IntKind.u64.wrap ((D.wait.length:Int)+1)=(D.wait.length:Int)+1:=by rw[uM];omega
 have w3:¬((D.wait.length:Int)+1=0):=by omega
 have hkk:ig D dirs=(IntKind.u64.wrap dirs).toNat%(D.wait.length+1):=rfl;rw[←hkk]at hmod;have hlen1:=hr1.len;have htl:((D.wait.take (ig D dirs)).map cn).length=(D.wait.take (ig D dirs)).length:=by simp
 rw[htl]at hlen1;have hdl:=h.dirL (ig D dirs);obtain⟨l,hl⟩:∃l,l=lJ D (ig D dirs):=⟨_,rfl⟩;obtain⟨fin,hfin⟩:∃fin:Nat→(Nat→PV)→Dk,fin=fun li' fv'=>fK D li' fv' dirs kept:=⟨_,rfl⟩
 have main:∃fr' S' li' fv',aJ T [.code mM.body] (gV [.ptr o 0,.int .i64 dirs,kv]) S=some (fr',S')∧fr' 6=.int .i64 0∧At S' o K (fin li' fv')∧bj o S S' D (fin li' fv')∧li'≠D.li:=by
  suffices hs:Ok (aJ T [.code mM.body] (gV [.ptr o 0,.int .i64 dirs,kv]) S) (fun fr' S'=>∃li' fv',fr' 6=.int .i64 0∧At S' o K (fin li' fv')∧bj o S S' D (fin li' fv')∧li'≠D.li)by
   obtain⟨⟨fr',S'⟩,e,li',fv',q⟩:=hs;exact⟨fr',S',li',fv',e,q⟩
  obtain⟨Q,hQ⟩:∃Q:Fr→St→Prop,Q=(fun fr' S'=>∃li' fv',fr' 6=.int .i64 0∧At S' o K (fin li' fv')∧bj o S S' D (fin li' fv')∧li'≠D.li):=⟨_,rfl⟩;rw[←hQ];simp -implicitDefEqProofs [mM,aU hob,hwl,w1,w2,w3,hmod,hv1,hlen1];refine aA2 h.nd.1 hr1 (by rw[List.length_take];omega) (D.wait.take (ig D dirs)) [] rfl D.base _ S (Cu h.hist.okA.1 _) h.obj h.base (by simp) (by simp) (by simp) (by simp) ?_;rintro fr1 S1 ⟨g0,g2⟩ ht1 hb1 hkeep1;simp at g0 g2;have hb1:S1.objs[D.bi]?=some (cE l):=by rw[hl];exact hb1
  have ho1:=hkeep1 o _ h.nd.1 h.obj;have hli1:=hkeep1 D.li _ (Ne.symm h.nd.2.2.1) h.live
  have hF1:Fl S1 D:=⟨fun f hf=>by
   obtain⟨f1,f2,f3⟩:=h.file f hf;exact⟨hkeep1 f _ (h.nd.2.2.2 f hf).2.1 f1,f2.of (fun _ _=>by rw[ht1]),f3⟩,h.tf⟩
  have ho1':=ho1;simp only[ax]at ho1';have hkeys:=Ud ⟨_,hb1⟩;have hsorted:=Ue hb1 (by rw[hl];omega) (by rw[hl];exact h.dirN _);have hrd:=Uo l;have hln:=hrd.len;have hml:((ii l).map PV.str).length=(ii l).length:=by simp
  rw[hml]at hln;simp -implicitDefEqProofs [g0,g2,aU ho1',hkeys,hsorted,hln];have ha:∀{i:Nat} {c:List PV},S1.objs[i]?=some c→(S1.objs++[[PV.map D.bi]])[i]?=some c:=fun hc=>by rw[bP (aS.1 hc).1];exact hc
  have hF1a:Fl ⟨S1.objs++[[.map D.bi]],S1.tips⟩ D:=⟨fun f hf=>by
   obtain⟨f1,f2,f3⟩:=hF1.file f hf;exact⟨ha f1,f2.of (fun _ _=>rfl),f3⟩,h.tf⟩
  refine aA7 (o:=o) (l:=l) hrd hkv (by rw[Up,hl];omega) (ii l) [] rfl (fun n hn=>aBa hn) D _ _ (ha ho1) (ha hb1) hF1a (by rw[hl];exact h.dirF _) (fun f hf=>⟨(h.nd.2.2.2 f hf).1,(h.nd.2.2.2 f hf).2.1⟩) h.rm.2 (by simp[g0]) (by simp[g2]) (by simp) (by simp) (by simp) ?_;intro fr2 S2 fv2 q0 hF2 hkeep2 htl2 ht2 hown;simp[g0]at q0
  have hob2:S2.objs[o]?=some [.int .i64 D.room,.map D.bi,.map D.li,D.wv,.int .i64 D.left,.int .i64 D.done,.bool D.dark]:=by
   rw[hkeep2 o (fun hf=>(h.nd.2.2.2 o hf).1 rfl)];exact ha ho1'
  have hb2:S2.objs[D.bi]?=some (cE l):=by rw[hkeep2 D.bi (fun hf=>(h.nd.2.2.2 _ hf).2.1 rfl)];exact ha hb1
  have hli2:S2.objs[D.li]?=some (cE D.live):=by rw[hkeep2 D.li (fun hf=>(h.nd.2.2.2 _ hf).2.2 rfl)];exact ha hli1
  have hcl:aO T 197 [.map D.bi] S2=some (.map S2.objs.length,⟨S2.objs++[cE l],S2.tips⟩):=Cl Ub (by simp only[pQ,hb2])
  have hob3:(S2.objs++[cE l])[o]?=some [.int .i64 D.room,.map D.bi,.map D.li,D.wv,.int .i64 D.left,.int .i64 D.done,.bool D.dark]:=by
   rw[bP (aS.1 hob2).1];exact hob2
  have hap:∀{i:Nat} {c:List PV},S2.objs[i]?=some c→(S2.objs++[cE l])[i]?=some c:=fun hc=>by rw[bP (aS.1 hc).1];exact hc
  have lo:=(aS.1 hob2).1;have lb:=(aS.1 hb2).1;have ll:=(aS.1 hli2).1;have lf:∀f∈D.fl,f<S2.objs.length:=fun f hf=>(aS.1 (hF2.file f hf).1).1
  have hres:At ⟨(S2.objs++[cE l]).set o [.int .i64 D.room,.map D.bi,.map S2.objs.length,.nils,.int .i64 (-1),.int .i64 D.done,.bool false],S2.tips⟩ o K (fin S2.objs.length fv2):=by
   rw[hfin]
   exact {
    obj:=da hob3
    base:=by
     show((S2.objs++[cE l]).set o _)[D.bi]?=_;rw[ak h.nd.1];simp only[fK,←hl];exact hap hb2
    live:=by
     show((S2.objs++[cE l]).set o _)[S2.objs.length]?=_;rw[ak (by omega)];simp only[fK,←hl];simp
    wv:=.inl ⟨rfl,rfl⟩
    file:=fun f hf=>by
     obtain⟨f1,f2,f3⟩:=hF2.file f hf;refine⟨?_,?_⟩
     ·show((S2.objs++[cE l]).set o _)[f]?=_;rw[ak (Ne.symm (h.nd.2.2.2 f hf).1)];have:=hap f1;rw[hl]at this ⊢;exact this
     ·have q:_∧_:=⟨f2,f3⟩;rw[hl]at q;exact⟨fi.of q.1 (fun _ _=>rfl),q.2⟩
    inb:=by simp only[fK];exact h.dirF _
    inw:=fun x hx=>by simp[fK]at hx
    nd:=⟨h.nd.1,by simp only[fK];omega,by simp only[fK];omega,fun f hf=>⟨(h.nd.2.2.2 f hf).1,(h.nd.2.2.2 f hf).2.1,by have:=lf f hf;simp only[fK];omega⟩⟩
    tw:=fun f hf k hk=>by simp[fK,cU]at hk
    tf:=hF2.tf
    hist:=.nil _
    nb:=by simp only[fK];exact h.dirN _
    nw:=fun x hx=>by simp[fK]at hx
    rm:=h.rm
    cnt:=by simpa[fK]using hdl
    dn:=h.dn
    lf:=⟨by simp[fK],by simp[fK]⟩}
  have hold:∀(i:Nat) (c:List PV),S.objs[i]?=some c→i≠o→¬iN D i→S2.objs[i]?=some c:=by
   intro i c hc hi hn;rw[hkeep2 i (fun q=>hn (.inr (.inr q)))];exact ha (hkeep1 i c (fun q=>hn (.inl q)) hc)
  have hfra:∀d,bj o S ⟨(S2.objs++[cE l]).set o d,S2.tips⟩ D (fin S2.objs.length fv2):=by
   intro y
   have htt:∀i,i<S.tips.length→S2.tips[i]?=S.tips[i]?:=fun i hi=>by
    have:=ht2 i (by simp only;rw[ht1];exact hi);rw[this];simp only;rw[ht1]
   have hge:S.tips.length≤S2.tips.length:=by simp only at htl2;rw[ht1]at htl2;exact htl2
   refine⟨⟨hge,fun k hk ho=>⟨?_,htt k hk⟩⟩,⟨fun i c hc hi hn=>by
    simp only;rw[ak (Ne.symm hi)];exact hap (hold i c hc hi hn),fun i hi hio hn=>?_⟩⟩
   rotate_left
   ·rw[hfin];obtain⟨c,hc⟩:∃c,S.objs[i]?=some c:=⟨_,cJ hi⟩;have hlt:=(aS.1 (hold i c hc hio hn)).1;rintro(q|q|q)
    ·exact hn (.inl q)
    ·simp only[fK]at q;omega
    ·exact hn (.inr (.inr q))
   rw[hfin];rintro(hq|⟨g,hg,hq⟩)
   ·simp[fK,cU]at hq
   ·rcases hown g hg k hq with hq|hq
    ·exact ho (.inr ⟨g,hg,hq⟩)
    ·simp only at hq;rw[ht1]at hq;omega
  have hend:∀fr':Fr,fr' 6=.int .i64 0→Q fr' ⟨(S2.objs++[cE l]).set o [.int .i64 D.room,.map D.bi,.map S2.objs.length,.nils,.int .i64 (-1),.int .i64 D.done,.bool false],S2.tips⟩:=by
   intro fr' h6;rw[hQ];exact⟨S2.objs.length,fv2,h6,hres,hfra _,by omega⟩
  clear hQ;simp -implicitDefEqProofs [q0,aU hob2,hcl,aI,hob3,da hob3,aR];exact hend _ (by simp)
 obtain⟨fr',S',li',fv',e,h6,hA,hR,hne⟩:=main;refine⟨li',fv',S',Fp aAW rfl ?_,by rw[hfin]at hA;exact hA,by rw[hfin]at hR;exact hR,hne⟩;rw[e];simp only[od]
 have hres:eN fr' S' mM.results=some [.int .i64 0]:=by
  simp[mM,eN,h6]
 rw[hres];simp only[od,iF]
 congr 1
 rw[hfin]at hA;refine nS h.obj hA.obj ?_ (i:=o) hA.obj h.lt.1 (lH _);intro e;simp only[ax,fK,kW,PV.map.injEq]at e;exact hne e.2.2.1.symm
end Ps
set_option linter.defProp false
namespace Ps
set_option linter.unusedSimpArgs false
set_option linter.unusedVariables false
open Go
def aBd {S:St} {o K:Nat} {D:Dk} (h:At S o K D):S.objs.length∉D.fl:=fun hf=>by have:=h.lt.2.2.2 _ hf;omega
def aBe(D:Dk)(n:Nm):iP D n=.nils∨∃f,lk n D.live=some f∧iP D n=gw (D.fv f) (D.fb f):=by
 unfold iP;split
 ·split
  ·rename_i f hf;exact .inr ⟨f,hf,rfl⟩
  ·exact .inl rfl
 ·exact .inl rfl
def bG.hi{sz:Nat}{v:PV}{es:List PV}(h:bG sz v es){hi:Nat}{j:IntKind}(hh:hi≤es.length):∃v',eQ sz none (some (.int j (hi:Int))) v=some v'∧bG sz v' (es.take hi):=by
 rcases h with⟨rfl,rfl⟩|⟨tip,sp,rfl,h⟩
 ·refine⟨.nils,?_,.inl ⟨rfl,by simp⟩⟩;have:hi=0:=by simpa using hh
  subst this;rw[vn,pb (by omega)]
 ·refine⟨.sl (if hi=es.length then tip else none) (((es++sp).take hi).drop 0) ((es++sp).drop hi),?_,.inr ⟨if hi=es.length then tip else none,(es++sp).drop hi,?_,?_⟩⟩
  ·rw[sX,oH h,pb (by omega)];rfl
  ·rw[sm hh,oh]
  ·intro e he;refine h e ?_;rcases dA.1 he with he|he
   ·exact qS _ (jz he)
   ·exact iZ he
def Uq:∀{s:List UInt8} {e:PV},e∈aL s→e.cells.length=1:=by
 intro s e he;simp only[aL,cD]at he;obtain⟨_,_,rfl⟩:=he;rfl
def aBf{S:St}{v:PV}{b:List UInt8}(h:fi S 1 v (aL b)):bG 1 (gw v b) (aL b):=by
 rcases h with⟨rfl,hn⟩|⟨k,e,rfl,_⟩
 ·exact .inl ⟨rfl,hn⟩
 ·exact .inr ⟨none,[],rfl,fun e he=>Uq (s:=b) (by simpa using he)⟩
def aBg(v:PV)(b:List UInt8):(gw v b).cells=[gw v b]∧(gw v b).one=true:=by
 unfold gw;split<;>exact⟨rfl,rfl⟩
def aBh(D:Dk)(n:Nm):(iP D n).cells=[iP D n]∧(iP D n).one=true:=by
 rcases aBe D n with h|⟨f,_,h⟩<;>rw[h]
 ·exact⟨rfl,rfl⟩
 ·exact aBg _ _
def gU(D:Dk):List Nm:=if D.dark then []else ii D.live
def Ur(D:Dk):bT 1 (pM D) ((gU D).map .str):=by
 unfold pM gU;split
 ·exact ma 1
 ·exact Uo _
def At.namesLen{S:St}{o K:Nat}{D:Dk}(h:At S o K D):(gU D).length≤K:=by
 unfold gU;split
 ·simp
 ·rw[Up];exact h.ll
def At.namesMax{S:St}{o K:Nat}{D:Dk}(h:At S o K D):∀n∈gU D,n.length≤maxLen:=by
 intro n hn;unfold gU at hn;split at hn
 ·cases hn
 ·have h2:n∈D.live.map (·.1):=(List.mergeSort_perm _ _).mem_iff.1 hn;obtain⟨p,hp,rfl⟩:=cD.1 h2;exact Nat.le_trans (h.nl p hp) (by decide)
def At.owns{S:St}{o K:Nat}{D:Dk}(h:At S o K D){k:Nat}(hk:pK D k):k<S.tips.length:=by
 rcases hk with hk|⟨f,hf,hk⟩
 ·exact h.wv.tip hk
 ·exact(h.file f hf).2.1.tip hk
def At.tips{S:St}{o K:Nat}{D:Dk}(h:At S o K D){tips':List (Nat×Nat)}(ht:∀k,pK D k→tips'[k]?=S.tips[k]?):At ⟨S.objs,tips'⟩ o K D where
 obj:=h.obj
 base:=h.base
 live:=h.live
 wv:=h.wv.of fun k hk=>ht k (.inl hk)
 file:=fun f hf=>by
  obtain⟨h1,h2,h3⟩:=h.file f hf;exact⟨h1,h2.of (fun k hk=>ht k (.inr ⟨f,hf,hk⟩)),h3⟩
 inb:=h.inb
 inw:=h.inw
 nd:=h.nd
 tw:=h.tw
 tf:=h.tf
 hist:=h.hist
 nb:=h.nb
 nw:=h.nw
 rm:=h.rm
 cnt:=h.cnt
 dn:=h.dn
 lf:=h.lf
def At.more{S:St}{o K:Nat}{D:Dk}(h:At S o K D)(x:List (Nat×Nat)):At ⟨S.objs,S.tips++x⟩ o K D:=h.tips fun k hk=>bP (h.owns hk)
def Cx(D:Dk):Prop:=D.left = -1∧D.dark=false
def Cx.step{D:Dk}(h:Cx D):cY D=0∧Cx (aX D):=by
 obtain⟨h1,h2⟩:=h;have hs:cY D=0:=by simp[cY,h1,h2]
 refine⟨hs,?_⟩;rw[pL hs];exact⟨by simp[h1],h2⟩
end Ps
