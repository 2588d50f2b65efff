/- The document's disk: its state in plain words; directories. -/
import Derived.Test.YtbjefjhmnojdoaaGreatDefs
import Derived.Test.YtbjefjhmnojdoaaGreatOk
import Derived.Test.YtbjefjhmnojdoaaGreatDC
set_option linter.defProp false
namespace Ps
set_option linter.unusedSimpArgs false
set_option linter.unusedVariables false
open Go
def lP{T:bH}{body:az}{K:List Kt}{Q:Fr→St→Prop}(n:Nat)(P:Nat→Fr→St→Prop)
  (round:∀i fr S,i<n→P i fr S→(∀fr' S',P (i+1) fr' S'→Ok (aJ T (.lp body::K) fr' S') Q)→Ok (aJ T (.lp body::K) fr S) Q)
  (done:∀fr S,P n fr S→Ok (aJ T (.lp body::K) fr S) Q) (i:Nat) (hi:i≤n) (fr:Fr) (S:St) (h:P i fr S):Ok (aJ T (.lp body::K) fr S) Q:=by
 obtain⟨k,hk⟩:∃k,n-i=k:=⟨_,rfl⟩
 induction k generalizing i fr S with
 |zero=>
  have:i=n:=by omega
  subst this
  exact done fr S h
 |succ k ih=>exact round i fr S (by omega) h (fun fr' S' h'=>ih (i+1) (by omega) fr' S' h' (by omega))
def lQ{i n:Nat}(h:i<n)(hn:n≤maxLen):IntKind.i64.wrap ((i:Int)+1)=(i:Int)+1:=by
 unfold maxLen at hn;exact bJ (by omega) (by omega)
def yU{fr:Fr}{S:St}{t n:Nat}{ag:Bool}:pO fr S (.cell t ag n)=cS S ag n (fr t):=by
 simp only[pO,cS];cases fr t<;>rfl
def uP{S S1 S2:St}{r v:PV}{fr:Fr}{raw ag:Bool}{t n:Nat}(h:cS S1 ag n (fr t)=some v)(k:ac raw S S1 v=(r,S2)):gM [.cell t ag n] raw S r S2 fr S1:=
 ⟨[v],by simp only[eN,yU,h],k⟩
def fM{S S1 S2:St}{r v w:PV}{fr:Fr}{raw ag:Bool}{t n u:Nat}(h:cS S1 ag n (fr t)=some v)(hu:fr u=w)(k:ac raw S S1 (.tup [v,w])=(r,S2)):gM [.cell t ag n,.tmp u] raw S r S2 fr S1:=
 ⟨[v,w],by subst hu;rw[←yU]at h;simp only[eN,h];rfl,k⟩
structure cC(sz:Nat)(v:PV)(es:List PV):Prop where
 val:(v=.nils∧es=[])∨∃sp,v=.sl none es sp∧(∀e∈sp,e.cells.length=sz)∧PV.freeL sp=true∧PV.frzL sp=sp
 sz:∀e∈es,e.cells.length=sz
 fr:PV.freeL es=true
 fz:PV.frzL es=es
def cC.reads{sz:Nat}{v:PV}{es:List PV}(h:cC sz v es):bT sz v es:=by
 rcases h.val with⟨rfl,rfl⟩|⟨sp,rfl,_⟩
 ·exact ma sz
 ·exact oG h.sz
def cC.isl{sz:Nat}{v:PV}{es:List PV}(h:cC sz v es):bG sz v es:=by
 rcases h.val with⟨rfl,rfl⟩|⟨sp,rfl,hs,_⟩
 ·exact .inl ⟨rfl,rfl⟩
 ·exact .inr ⟨none,sp,rfl,fun e he=>(dA.1 he).elim (h.sz e) (hs e)⟩
def cC.len{sz:Nat}{v:PV}{es:List PV}(h:cC sz v es):cz false v=some (.int .i64 es.length):=h.reads.len
def cC.free{sz:Nat}{v:PV}{es:List PV}(h:cC sz v es):v.free=true:=by
 rcases h.val with⟨rfl,rfl⟩|⟨sp,rfl,_,hf,_⟩
 ·rfl
 ·simp[PV.free,h.fr,hf]
def cC.frz{sz:Nat}{v:PV}{es:List PV}(h:cC sz v es):v.frz=v:=by
 rcases h.val with⟨rfl,rfl⟩|⟨sp,rfl,_,_,hz⟩
 ·rfl
 ·simp[PV.frz,h.fz,hz]
def cC.one{sz:Nat}{v:PV}{es:List PV}(h:cC sz v es):v.one=true∧v.cells=[v]:=by
 rcases h.val with⟨rfl,rfl⟩|⟨sp,rfl,_⟩<;>exact⟨rfl,rfl⟩
def cC.appd{sz:Nat}{v:PV}{es:List PV}(h:cC sz v es)(S:St):eF S sz v=some es:=by
 rcases h.val with⟨rfl,rfl⟩|⟨sp,rfl,_⟩
 ·rfl
 ·rw[aMz,if_pos (oH h.sz)]
def lR(sz:Nat):cC sz .nils []:=⟨.inl ⟨rfl,rfl⟩,by simp,rfl,rfl⟩
def DF{sz:Nat}{es:List PV}(h:∀e∈es,e.cells.length=sz)(hf:PV.freeL es=true)(hz:PV.frzL es=es):cC sz (.sl none es []) es:=⟨.inr ⟨[],rfl,by simp,rfl,rfl⟩,h,hf,hz⟩
def bB.sl0{S0 S:St}{sz:Nat}{v:PV}{es:List PV}(h:bB S0 sz S v es)(hs:∀e∈es,e.cells.length=sz)(hf:PV.freeL es=true)(hz:PV.frzL es=es) :
  ac false S0 S v=(bo v es,S0)∧cC sz (bo v es) es:=by
 refine⟨h.fin hf hz,?_,hs,hf,hz⟩;rcases h.acc with⟨rfl,rfl⟩|⟨id,_,rfl,_⟩
 ·exact .inl ⟨rfl,rfl⟩
 ·exact .inr ⟨[],rfl,by simp,rfl,rfl⟩
def bB.push{S0 S:St}{sz bytes:Nat}{v:PV}{es:List PV}(h:bB S0 sz S v es)(e:PV)(hb:(es.length+1)*bytes≤140737488355328) :
  ∃v' S',fL sz bytes ⟨S.objs,S.tips++[(1,sz)]⟩ v [e]=some (v',S')∧bB S0 sz S' v' (es++[e])∧S'.objs=S.objs:=by
 obtain⟨v',S',h1,h2,h3⟩:=(h.arrs [(1,sz)]).app (bytes:=bytes) [e] (by simpa using hb);exact⟨v',S',h1,h2,h3⟩
def kH(v:PV)(k:Nat):PV:=match v with|.sl _ es sp=>.sl none (es.take k) (es.drop k++sp)|_=>.nils
def cC.slc{v:PV}{es:List PV}(h:cC 1 v es){k:Nat}(hk:k≤es.length){j:IntKind}:eQ 1 none (some (.int j (k:Int))) v=some (kH v k)∧cC 1 (kH v k) (es.take k):=by
 have fzd:∀{l m:List PV},PV.frzL l=l→(∀(i:Nat) (x:PV),m[i]?=some x→∃j:Nat,l[j]?=some x)→PV.frzL m=m:=by
  intro l m hl hm;rw[jj]at hl ⊢
  have key:∀x∈l,x.frz=x:=by
   intro x hx;obtain⟨i,hi⟩:=iK hx;have e:=congrArg (fun l=>l[i]?) hl;simp only[fX,hi,lD,bU]at e;exact e
  have:m.map PV.frz=m.map id:=om fun x hx=>by
   obtain⟨i,hi⟩:=iK hx;obtain⟨q,hq⟩:=hm i x hi;exact key x (dZ hq)
  rw[this,List.map_id]
 rcases h.val with⟨rfl,rfl⟩|⟨sp,rfl,hs,hf,hz⟩
 ·have:k=0:=by simpa using hk
  subst this;exact⟨by rw[vn,pb (by omega)];rfl,lR 1⟩
 ·have hsz:∀e∈es++sp,e.cells.length=1:=fun e he=>(dA.1 he).elim (h.sz e) (hs e);refine⟨?_,.inr ⟨es.drop k++sp,rfl,?_,?_,?_⟩,fun e he=>h.sz e (jz he),qF fun v hv=>fe h.fr v (jz hv),fzd h.fz fun i x hx=>?_⟩
  ·rw[sX,oH hsz,pb (by omega)];simp only[vt,cF,if_false,kH,oh,bU];rw[sm hk,vy hk];split<;>rfl
  ·intro e he;rcases dA.1 he with he|he
   ·exact h.sz e (iZ he)
   ·exact hs e he
  ·refine qF fun v hv=>?_;rcases dA.1 hv with hv|hv
   ·exact fe h.fr v (iZ hv)
   ·exact fe hf v hv
  ·have e1:PV.frzL (es.drop k)=es.drop k:=fzd h.fz fun i x hx=>⟨k+i,by rw[iw]at hx;exact hx⟩;rw[jj]at e1 hz ⊢;rw[eh,e1,hz]
  ·obtain⟨q,hq⟩:=iK (jz (dZ hx));exact⟨q,hq⟩
def du:PV→Option Nat
 |.osl id _ _ _=>some id
 |_=>none
structure dV(S0:St)(sz:Nat)(S:St)(v:PV)(es:List PV):Prop where
 acc:((v=.emp∨v=.nils)∧es=[])∨∃id,S0.objs.length≤id∧v=.osl id 0 es.length sz∧S.objs[id]?=some (es.flatMap PV.cells)∧es≠[]
 ok:∀e∈es,e.cells.length=sz∧e.cells.all PV.one=true
theorem rN{sz:Nat}:∀{es:List PV},(∀e∈es,e.cells.length=sz)→(es.flatMap PV.cells).length=es.length*sz
 | [],_=>by simp
 |e::es,h=>by
  rw[fB,List.length_append,h e (by simp),rN (fun x hx=>h x (by simp[hx])),bV,dh];omega
def DG{es:List PV}(h:∀e∈es,e.cells.all PV.one=true):(es.flatMap PV.cells).all PV.one=true:=by
 rw[List.all_eq_true];intro x hx;obtain⟨e,he,hxe⟩:=mE.1 hx;exact(List.all_eq_true.1 (h e he)) x hxe
def dV.app{S0 S:St}{sz bytes:Nat}{v:PV}{es new:List PV}(h:dV S0 sz S v es)(hg:aP S0 S)(hsz:0<sz)(hn:∀e∈new,e.cells.length=sz∧e.cells.all PV.one=true)(hb:(es.length+new.length)*bytes≤140737488355328) :
  ∃v' S',nY sz bytes S v new=some (v',S')∧dV S0 sz S' v' (es++new)∧aP S0 S'∧S'.tips=S.tips∧S.objs.length≤S'.objs.length ∧
   (∀i x,S.objs[i]?=some x→du v≠some i→S'.objs[i]?=some x)∧(∀i,du v'=some i→i<S.objs.length→du v=some i)∧(v≠.nils→v'≠.nils):=by
 have hok:∀e∈es++new,e.cells.length=sz∧e.cells.all PV.one=true:=fun e he=>by
  rcases dA.1 he with he|he
  ·exact h.ok e he
  ·exact hn e he
 obtain⟨o0,t0,rfl⟩:=hg;unfold nY
 cases new with
 |nil=>
  rcases h.acc with⟨hv|hv,rfl⟩|⟨id,h1,rfl,h2,h3⟩
  ·subst hv;exact⟨.emp,_,rfl,⟨.inl ⟨.inl rfl,rfl⟩,by simp⟩,⟨o0,t0,rfl⟩,rfl,aj _,fun _ _ h _=>h,fun i h=>(by cases h),fun h=>h⟩
  ·subst hv;exact⟨.nils,_,rfl,⟨.inl ⟨.inr rfl,rfl⟩,by simp⟩,⟨o0,t0,rfl⟩,rfl,aj _,fun _ _ h _=>h,fun i h=>(by cases h),fun h=>h⟩
  ·exact⟨_,_,by simp,⟨.inr ⟨id,h1,by simp,by simpa using h2,by simpa using h3⟩,hok⟩,⟨o0,t0,rfl⟩,rfl,aj _,fun _ _ h _=>h,fun i h _=>h,fun h=>h⟩
 |cons a new=>
  have hS:∀(x:List PV) (i:Nat) (y:List PV),(S0.objs++o0)[i]?=some y→((S0.objs++o0)++[x])[i]?=some y:=fun x i y h=>by
   rw[bP (aS.1 h).1];exact h
  simp only[AZ,cF,if_false]
  have fresh:es=[]→∃v' S',(if(a::new).length*bytes≤140737488355328 then some (nX ⟨S0.objs++o0,S0.tips++t0⟩ sz (a::new))else none)=some (v',S')∧dV S0 sz S' v' (es++a::new)∧aP S0 S'∧S'.tips=S0.tips++t0∧(S0.objs++o0).length≤S'.objs.length ∧
   (∀i x,(S0.objs++o0)[i]?=some x→du v≠some i→S'.objs[i]?=some x)∧(∀i,du v'=some i→i<(S0.objs++o0).length→du v=some i)∧(v≠.nils→v'≠.nils):=by
   intro he;subst he;rw[if_pos (by simpa using hb)];refine⟨_,_,rfl,⟨.inr ⟨(S0.objs++o0).length,by simp,by simp,by simp,by simp⟩,hok⟩,⟨o0++[(a::new).flatMap PV.cells],t0,by simp[nX]⟩,rfl,by simp[nX],fun i x h _=>hS _ i x h,fun i h hlt=>?_,fun _ e=>by cases e⟩;simp only[nX,du,bU]at h;omega
  rcases h.acc with⟨hv|hv,he⟩|⟨id,h1,rfl,h2,h3⟩
  ·subst hv;exact fresh he
  ·subst hv;exact fresh he
  ·have hlt:=(aS.1 h2).1;have hfl:=rN (fun e he=>(h.ok e he).1)
   have hpos:0<(es.flatMap PV.cells).length:=by
    rw[hfl];have:0<es.length:=by cases es<;>simp at h3 ⊢
    exact Nat.mul_pos this hsz
   have htk:(es.flatMap PV.cells).take (es.length*sz)=es.flatMap PV.cells:=mu (by rw[hfl];exact aj _);simp only at h2;simp only[h2];rw[if_pos ⟨trivial,trivial,hpos,by rw[hfl];exact aj _,by rw[htk];exact DG (fun e he=>(h.ok e he).2),hb⟩,htk];refine⟨_,_,rfl,⟨.inr ⟨(S0.objs++o0).length,by simp,by simp,by simp,by simp⟩,hok⟩,⟨o0.set (id-S0.objs.length) []++[es.flatMap PV.cells++(a::new).flatMap PV.cells],t0,?_⟩,rfl,by simp,fun i x hx hne=>?_,fun i hi hlt2=>?_,fun _ e=>by cases e⟩
   ·simp only[St.mk.injEq,and_true];rw[mF _ _ h1,iv]
   ·have hne':i≠id:=fun e=>hne (by rw[e];rfl);rw[bP (by simp;have:=(aS.1 hx).1;simpa using this),ak (Ne.symm hne')];exact hx
   ·simp only[du,bU]at hi;omega
theorem yV{sz:Nat}:∀{es:List PV} {i:Nat} {e e':PV},(∀x∈es,x.cells.length=sz)→es[i]?=some e→e'.cells.length=sz →
  ∀{j:Nat} {c:List PV},j+c.length≤sz→e'.cells=aR e.cells j c→aR (es.flatMap PV.cells) (i*sz+j) c=(es.set i e').flatMap PV.cells
 | [],i,e,e',_,h,_,_,_,_,_=>by simp at h
 |a::es,0,e,e',hs,h,hl,j,c,hj,hc=>by
  simp at h;subst h;have ha:=hs a (by simp);simp only[List.set_cons_zero,fB,hc,aR,Nat.zero_mul,dN];rw[sm (by omega),vy (by omega)]
  simp
 |a::es,i+1,e,e',hs,h,hl,j,c,hj,hc=>by
  have ha:=hs a (by simp);have ih:=yV (es:=es) (i:=i) (fun x hx=>hs x (by simp[hx])) (by simpa using h) hl hj hc;simp only[List.set_cons_succ,fB];rw[←ih];have hmul:(i+1)*sz+j=a.cells.length+(i*sz+j):=by rw[ha,dh];omega
  simp only[aR,hmul];rw[Af,mu (by omega),GC,sa (by omega)];simp[iL]
def aBH{f:PV→Option PV}{a b c d:List PV}(h1:cr f a=some c)(h2:cr f b=some d):cr f (a++b)=some (c++d):=by
 induction a generalizing c with
 |nil=>cases h1;exact h2
 |cons x a ih=>
  simp only[cr]at h1;split at h1
  ·rename_i y hy;split at h1
   ·rename_i m hm;cases h1;simp only[jx,cr,hy,ih hm]
   ·cases h1
  ·cases h1
theorem VD{α:Type}{f:PV→Option PV}{g h:α→PV}:∀{l:List α},(∀a∈l,cr f (g a).cells=some (h a).cells)→cr f ((l.map g).flatMap PV.cells)=some ((l.map h).flatMap PV.cells)
 | [],_=>rfl
 |a::l,hf=>by
  simp only[dS,fB];exact aBH (hf a (by simp)) (VD (fun b hb=>hf b (by simp[hb])))
theorem np{objs:List (List PV)}{n0 k:Nat}:∀{l:List PV},PV.freeL l=true→cr (bQ objs n0 (k+1)) l=some l
 | [],_=>rfl
 |a::l,h=>by
  simp only[PV.freeL,aV]at h;simp only[cr,lz h.1,np h.2]
theorem VE{sz:Nat}(hsz:2≤sz):∀{l:List (List PV)},(∀c∈l,c.length=sz)→∀{r:List PV},gJ sz l.length (l.flatten++r)=l.map .agg
 | [],_,r=>rfl
 |c::l,h,r=>by
  have hc:=h c (by simp);simp only[bV,gJ,List.flatten_cons,dS,iv];rw[sm (by omega),mu (by omega),vy (by omega),sa (by omega),eE];rw[VE hsz (fun x hx=>h x (by simp[hx]))]
  congr 1
  unfold uN;split
  ·rename_i a;simp at hc;omega
  ·rfl
theorem VF:∀{l r:List PV},gJ 1 l.length (l++r)=l
 | [],r=>rfl
 |c::l,r=>by
  simp only[bV,gJ,jx,List.take_succ_cons,List.take_zero,List.drop_succ_cons,oh];rw[VF];rfl
def VG{objs:List (List PV)}{n0 k id n sz:Nat}{cs ds es:List PV}(hn:n0≤id)(hs:0<sz)(hc:objs[id]?=some cs)(hl:cs.length=n*sz)(ho:cs.all PV.one=true)(hm:cr (bQ objs n0 k) cs=some ds)(he:gJ sz n ds=es) :
  bQ objs n0 (k+1) (.osl id 0 n sz)=some (.sl none es []):=by
 unfold bQ;have htk:cs.take (n*sz)=cs:=mu (by omega);simp only[PV.free,cF,if_false,hn,hs,and_self,if_true,hc,dN,oh,htk,ho,hl,aj,hm,he]
def VH{objs:List (List PV)}{n0 k:Nat}:bQ objs n0 (k+1) .emp=some (.sl none [] []):=by
 unfold bQ;simp[PV.free]
end Ps
set_option linter.defProp false
namespace Ps
set_option linter.unusedSimpArgs false
set_option linter.unusedVariables false
open Go
def aBI:T.fn 203=some (.code th):=rfl
def aBJ:T.fn 204=some (.code td):=rfl
def aBK:T.fn 205=some (.code tc):=rfl
def yW:T.fn 206=some (.code nN):=rfl
def aBL:T.fn 207=some (.code tg):=rfl
def aBM:T.fn 295=some (.code uD):=rfl
def aBN:T.fn 296=some (.code z26):=rfl
def aBO{s:Nm}(hs:s.length≤maxLen):aO T 203 [.str s] bk=some (.bool (bg s),bk):=by
 refine aW aBI rfl ?_;simp -implicitDefEqProofs [th];refine lP s.length (fun i fr S=>fr 0=.str s∧fr 3=.int .i64 (i:Int)∧(s.take i).all jY=true∧S=bk) ?_ ?_ 0 (Nat.zero_le _) _ _ ⟨by simp,by simp,by simp,rfl⟩
 ·rintro i fr S hi ⟨h0,h3,ha,rfl⟩ k;have hw:=lQ hi hs;have hc:s[i]?=some s[i]:=cJ hi
  have hL:∀fr',fr' 0=.str s→fr' 3=.int .i64 ((i:Int)+1)→jY s[i]=true→Ok (aJ T (.lp CA::.blk 0::[.code (.seq (.clr [(36,43)] (.region CB)) .ret)]) fr' bk) (gM [.tmp 2] false bk (.bool (bg s)) bk):=by
   intro fr' g0 g3 gc;refine k fr' bk ⟨g0,by simpa using g3,?_,rfl⟩;rw[sj,hc,AW,ha];simpa using gc
  have hR:∀fr',fr' 2=.bool false→jY s[i]=false→gM [.tmp 2] false bk (.bool (bg s)) bk fr' bk:=by
   intro fr' g2 gc
   have:s.all jY=false:=by
    rw[List.all_eq_false];exact⟨s[i],jy hi,by simp[gc]⟩
   simp[g2,bg,this]
  clear k;rw[af];simp -implicitDefEqProofs [h0,h3,hi,hc];refine bX (fun a1=>cV (hR _ (by simp) ?_)) (fun a1=>hL _ (by simp[h0]) (by simp[hw]) ?_)
  ·simp[jY]at a1 ⊢;omega
  ·simp[jY]at a1 ⊢;omega
 ·rintro fr S ⟨h0,h3,ha,rfl⟩;rw[iy]at ha;rw[af];simp -implicitDefEqProofs [h0,h3,bg,ha]
  congr 1;exact decide_eq_decide.2 (by omega)
def DH{s:Nm}(hs:s.length≤maxLen):eu T 203 [.str s]=some (.bool (bg s)):=iH (aBO hs) rfl rfl
abbrev RE:=Nm×Int
def bz(e:RE):PV:=.agg [.str e.1,.int .i64 e.2]
@[simp]def rO(e:RE):(bz e).cells=[.str e.1,.int .i64 e.2]:=rfl
def bC(n:Nm):List RE→Int
 | []=>-1
 |(q,f)::l=>if q==n then f else bC n l
def eH(n:Nm)(l:List RE):List RE:=l.filter fun x=>!(x.1==n)
def eT(e:RE):Bool→List RE→List RE
 |d,[]=>if d then []else [e]
 |d,x::l=>(if !d&&Op.bytesLess e.1 x.1 then [e]else [])++((if !(x.1==e.1)then [x]else [])++eT e (d||Op.bytesLess e.1 x.1) l)
def DI(l:List RE):PV.freeL (l.map bz)=true:=lY _ (fun _=>rfl) l
def DJ(l:List RE):PV.frzL (l.map bz)=l.map bz:=mb _ (fun _=>rfl) l
def DK(l:List RE):∀e∈l.map bz,e.cells.length=2:=by
 intro e he;obtain⟨x,_,rfl⟩:=cD.1 he;rfl
def uQ{l:List RE}{v:PV}(hv:bT 2 v (l.map bz))(hl:l.length≤maxLen){n:Nm}{S:St}:aO T 205 [v,.str n] S=some (.int .i64 (bC n l),S):=by
 refine aW aBK rfl ?_;have hlen:=hv.len;rw[List.length_map]at hlen;simp -implicitDefEqProofs [tc];refine lP l.length (fun i fr S'=>fr 0=v∧fr 1=.str n∧fr 5=.int .i64 (i:Int)∧bC n l=bC n (l.drop i)∧S'=S) ?_ ?_ 0 (Nat.zero_le _) _ _ ⟨by simp,by simp,by simp,by simp,rfl⟩
 ·rintro i fr S' hi ⟨h0,h1,h5,ha,rfl⟩ k;have hw:=lQ hi hl;have hg:=hv.get i (by simpa using hi) .i64;have hx:(l.map bz)[i]'(by simpa using hi)=bz l[i]:=by simp
  rw[hx,rO]at hg;have hd:l.drop i=l[i]::l.drop (i+1):=Zb hi
  have hL:∀fr',fr' 0=v→fr' 1=.str n→fr' 5=.int .i64 ((i:Int)+1)→(l[i].1==n)=false→Ok (aJ T (.lp Bv::.blk 0::[.code (.seq (.region Bw) .ret)]) fr' S') (gM [.tmp 4] false S' (.int .i64 (bC n l)) S'):=by
   intro fr' g0 g1 g5 gc;refine k fr' S' ⟨g0,g1,by simpa using g5,?_,rfl⟩;rw[ha,hd];simp only[bC,gc];rfl
  have hR:∀fr',fr' 4=.int .i64 l[i].2→(l[i].1==n)=true→gM [.tmp 4] false S' (.int .i64 (bC n l)) S' fr' S':=by
   intro fr' g gc;have:bC n l=l[i].2:=by rw[ha,hd];simp only[bC,gc];rfl
   simp[g,this]
  clear k;by_cases e:(l[i].1==n)=true
  ·rw[af];simp -implicitDefEqProofs [h0,h1,h5,hlen,hi,hg,e];have:=hR (bw fr 4 (.int .i64 l[i].2)) (by simp) e;simpa using this
  ·have e':(l[i].1==n)=false:=by simpa using e
   rw[af];simp -implicitDefEqProofs [h0,h1,h5,hlen,hi,hg,e'];exact hL _ (by simp[h0]) (by simp[h1]) (by simp[hw]) e'
 ·rintro fr S' ⟨h0,h1,h5,ha,rfl⟩;rw[List.drop_length]at ha;rw[af];simp -implicitDefEqProofs [h0,h1,h5,hlen,ha,bC]
def VI(n:Nm)(a:List RE)(x:RE):eH n (a++[x])=eH n a++(if x.1==n then []else [x]):=by
 simp only[eH,AX];by_cases h:(x.1==n)=true
 ·simp[h]
 ·have h:(x.1==n)=false:=by simpa using h
  simp[h]
def VJ{l:List RE}{v:PV}(hv:bT 2 v (l.map bz))(hl:l.length≤1048576){n:Nm}{S:St}:∃v',aO T 296 [v,.str n] S=some (v',S)∧cC 2 v' ((eH n l).map bz):=by
 have hlen:=hv.len;rw[List.length_map]at hlen;have hl':l.length≤maxLen:=by unfold maxLen;omega
 obtain⟨r,S2,h,h2,h3⟩:=eB (T:=T) aBN (args:=[v,.str n]) (S:=S) rfl (R:=fun r S2=>S2=S∧cC 2 r ((eH n l).map bz)) (by
  simp -implicitDefEqProofs [z26];refine lP l.length (fun i fr S'=>fr 0=v∧fr 1=.str n∧fr 6=.int .i64 (i:Int)∧bB S 2 S' (fr 5) ((eH n (l.take i)).map bz)) ?_ ?_ 0 (Nat.zero_le _) _ _ ⟨by simp,by simp,by simp,by simpa[eH]using ip 2 (aP.refl S)⟩
  ·rintro i fr S' hi ⟨h0,h1,h6,ha⟩ k;have hw:=lQ hi hl';have hg:=hv.get i (by simpa using hi) .i64;have hx:(l.map bz)[i]'(by simpa using hi)=bz l[i]:=by simp
   rw[hx,rO]at hg;have ht:l.take (i+1)=l.take i++[l[i]]:=by rw[sj,cJ hi];rfl
   have hle:((eH n (l.take i)).map bz).length≤1048576:=by
    have:=Zf (fun x:RE=>!(x.1==n)) (l.take i);simp only[eH,List.length_map,List.length_take]at this ⊢;omega
   by_cases e:(l[i].1==n)=true
   ·have hL:∀fr',fr' 0=v→fr' 1=.str n→fr' 6=.int .i64 ((i:Int)+1)→fr' 5=fr 5→Ok (aJ T (.lp yB::.blk 0::[.code (.seq (.clr [(27,28)] (.region yC)) .ret)]) fr' S') _:=fun fr' g0 g1 g6 g5=>by
     refine k fr' S' ⟨g0,g1,by simpa using g6,?_⟩;rw[g5,ht,VI,if_pos e,cI];exact ha
    rw[af];simp -implicitDefEqProofs [h0,h1,h6,hlen,hi,hg,e];exact hL _ (by simp[h0]) (by simp[h1]) (by simp[hw]) (by simp)
   ·have e':(l[i].1==n)=false:=by simpa using e
    obtain⟨v',S1,a1,a2,a3⟩:=ha.push (bytes:=24) (bz l[i]) (by omega)
    have hL:∀fr',fr' 0=v→fr' 1=.str n→fr' 6=.int .i64 ((i:Int)+1)→fr' 5=v'→Ok (aJ T (.lp yB::.blk 0::[.code (.seq (.clr [(27,28)] (.region yC)) .ret)]) fr' S1) _:=fun fr' g0 g1 g6 g5=>by
     refine k fr' S1 ⟨g0,g1,by simpa using g6,?_⟩;rw[g5,ht,VI,if_neg (by simp[e']),eh];exact a2
    simp only[bz]at a1;rw[af];simp -implicitDefEqProofs [h0,h1,h6,hlen,hi,hg,e',aI,bL,bR,ae,a1];exact hL _ (by simp[h0]) (by simp[h1]) (by simp[hw]) (by simp)
  ·rintro fr S' ⟨h0,h1,h6,ha⟩;rw[iy]at ha;obtain⟨f1,f2⟩:=ha.sl0 (DK _) (DI _) (DJ _);rw[af];simp -implicitDefEqProofs [h0,h1,h6,hlen,f1,f2])
 subst h2;exact⟨r,h,h3⟩
theorem DL(e:RE):∀(d:Bool) (l:List RE),(eT e d l).length≤l.length+(if d then 0 else 1)
 |d,[]=>by cases d<;>simp[eT]
 |d,x::l=>by
  have:=DL e (d||Op.bytesLess e.1 x.1) l;simp only[eT,List.length_append,bV];obtain⟨m,hm⟩:∃m,m=(if(!(x.1==e.1))=true then [x]else []):=⟨_,rfl⟩;have h2:m.length≤1:=by rw[hm];split<;>simp
  rw[←hm];clear hm
  cases d with
  |true=>simp at this ⊢;omega
  |false=>
   cases hb:Op.bytesLess e.1 x.1 with
   |true=>simp[hb]at this ⊢;omega
   |false=>simp[hb]at this ⊢;omega
def VK{l:List RE}{v:PV}(hv:bT 2 v (l.map bz))(hl:l.length≤1048576){x:RE}{S:St}:∃v',aO T 295 [v,bz x] S=some (v',S)∧cC 2 v' ((eT x false l).map bz):=by
 have hlen:=hv.len;rw[List.length_map]at hlen;have hl':l.length≤maxLen:=by unfold maxLen;omega
 obtain⟨r,S2,h,h2,h3⟩:=eB (T:=T) aBM (args:=[v,bz x]) (S:=S) rfl (R:=fun r S2=>S2=S∧cC 2 r ((eT x false l).map bz)) (by
  simp -implicitDefEqProofs [uD,aI];refine lP l.length (fun i fr S'=>fr 0=v∧fr 3=.ref [.str x.1,.int .i64 x.2]∧fr 7=.int .i64 (i:Int)∧∃d p,fr 6=.bool d∧bB S 2 S' (fr 5) (p.map bz)∧eT x false l=p++eT x d (l.drop i)∧p.length≤2*i) ?_ ?_ 0 (Nat.zero_le _) _ _ ⟨by simp,by simp,by simp,false,[],by simp,by simpa using ip 2 (aP.refl S),by simp,by simp⟩
  ·rintro i fr S' hi ⟨h0,h3,h7,d,p,h6,ha,hp,hpl⟩ k;have hw:=lQ hi hl';have hg:=hv.get i (by simpa using hi) .i64;have hx:(l.map bz)[i]'(by simpa using hi)=bz l[i]:=by simp
   rw[hx,rO]at hg;have hd:l.drop i=l[i]::l.drop (i+1):=Zb hi;rw[hd]at hp;simp only[eT]at hp
   have second:∀(fr2:Fr) (S2:St) (d2:Bool) (p2:List RE),fr2 0=v→fr2 3=.ref [.str x.1,.int .i64 x.2]→fr2 7=.int .i64 (i:Int)→fr2 6=.bool d2→bB S 2 S2 (fr2 5) (p2.map bz) →
     eT x false l=p2++((if !(l[i].1==x.1)then [l[i]]else [])++eT x d2 (l.drop (i+1)))→p2.length≤2*i+1 →
     Ok (aJ T (.ops tz::.clr [(30,37)]::.code (.cond (V 37) (.clr [(38,45)] (.region uB)) .skip)::.blk 1::.code (.clr [(12,14)] (.region uC))::.lp pJ::.blk 0::[.code (.seq (.seq (.clr [(45,46)] (.region CS)) (.cond (V 46) (.clr [(47,51)] (.region CT)) .skip)) (.seq (.clr [(51,52)] (.region CU)) .ret))]) fr2 S2)
      (fun fr S1=>(ac false S S1 (fr 4)).2=S∧cC 2 (ac false S S1 (fr 4)).1 ((eT x false l).map bz)):=by
    intro fr2 S2 d2 p2 g0 g3 g7 g6 ga gp gl;have hple:(p2.map bz).length≤4194304:=by simp;omega
    by_cases e:(l[i].1==x.1)=true
    ·have hL:∀fr',fr' 0=v→fr' 3=.ref [.str x.1,.int .i64 x.2]→fr' 7=.int .i64 ((i:Int)+1)→fr' 6=.bool d2→fr' 5=fr2 5→Ok (aJ T (.lp pJ::.blk 0::_) fr' S2) _:=fun fr' q0 q3 q7 q6 q5=>
      k fr' S2 ⟨q0,q3,by simpa using q7,d2,p2,q6,by rw[q5];exact ga,by rw[gp,if_neg (by simp[e]),eE],by omega⟩
     clear k;simp -implicitDefEqProofs [g0,g3,g7,g6,hg,e];exact hL _ (by simp[g0]) (by simp[g3]) (by simp[hw]) (by simp[g6]) (by simp)
    ·have e':(l[i].1==x.1)=false:=by simpa using e
     obtain⟨v',S1,a1,a2,a3⟩:=ga.push (bytes:=24) (bz l[i]) (by omega)
     have hL:∀fr',fr' 0=v→fr' 3=.ref [.str x.1,.int .i64 x.2]→fr' 7=.int .i64 ((i:Int)+1)→fr' 6=.bool d2→fr' 5=v'→Ok (aJ T (.lp pJ::.blk 0::_) fr' S1) _:=fun fr' q0 q3 q7 q6 q5=>
      k fr' S1 ⟨q0,q3,by simpa using q7,d2,p2++[l[i]],q6,by rw[q5,eh];exact a2,by rw[gp,if_pos (by simp[e']),iv],by simp;omega⟩
     clear k;simp only[bz]at a1;simp -implicitDefEqProofs [g0,g3,g7,g6,hg,e',aI,bL,bR,ae,a1];exact hL _ (by simp[g0]) (by simp[g3]) (by simp[hw]) (by simp[g6]) (by simp)
   clear k;rw[af];by_cases c:(!d&&Op.bytesLess x.1 l[i].1)=true
   ·have hd':d=false:=by cases d<;>simp_all
    have hlt:Op.bytesLess x.1 l[i].1=true:=by cases d<;>simp_all
    subst hd';obtain⟨v',S1,a1,a2,a3⟩:=ha.push (bytes:=24) (bz x) (by simp;omega)
    have hL:∀fr',fr' 0=v→fr' 3=.ref [.str x.1,.int .i64 x.2]→fr' 7=.int .i64 (i:Int)→fr' 6=.bool true→fr' 5=v'→Ok (aJ T (.ops tz::.clr [(30,37)]::.code (.cond (V 37) (.clr [(38,45)] (.region uB)) .skip)::.blk 1::.code (.clr [(12,14)] (.region uC))::.lp pJ::.blk 0::_) fr' S1) _:=
     fun fr' q0 q3 q7 q6 q5=>second fr' S1 true (p++[x]) q0 q3 q7 q6 (by rw[q5,eh];exact a2) (by rw[hp,if_pos (by simp[hlt])];simp[hlt]) (by simp;omega)
    clear second;simp only[bz]at a1;simp -implicitDefEqProofs [-yA,h0,h3,h7,h6,hlen,hi,hg,hlt,aI,bL,bR,ae,a1];exact hL _ (by simp[h0]) (by simp[h3]) (by simp[h7]) (by simp) (by simp)
   ·have c':(!d&&Op.bytesLess x.1 l[i].1)=false:=by simpa using c
    have hL:∀fr',fr' 0=v→fr' 3=.ref [.str x.1,.int .i64 x.2]→fr' 7=.int .i64 (i:Int)→fr' 6=.bool d→fr' 5=fr 5→Ok (aJ T (.ops tz::.clr [(30,37)]::.code (.cond (V 37) (.clr [(38,45)] (.region uB)) .skip)::.blk 1::.code (.clr [(12,14)] (.region uC))::.lp pJ::.blk 0::_) fr' S') _:=
     fun fr' q0 q3 q7 q6 q5=>second fr' S' d p q0 q3 q7 q6 (by rw[q5];exact ha) (by
      rw[hp,if_neg (by simp[c'])];have hdd:(d||Op.bytesLess x.1 l[i].1)=d:=by cases d<;>simp_all
      rw[hdd,eE]) (by omega)
    clear second;simp -implicitDefEqProofs [-yA,h0,h3,h7,h6,hlen,hi,hg]
    cases d with
    |true=>
     simp -implicitDefEqProofs [-yA]
     exact hL _ (by simp[h0]) (by simp[h3]) (by simp[h7]) (by simp[h6]) (by simp)
    |false=>
     have hlt:Op.bytesLess x.1 l[i].1=false:=by simpa using c'
     simp -implicitDefEqProofs [-yA,hlt];exact hL _ (by simp[h0]) (by simp[h3]) (by simp[h7]) (by simp[h6]) (by simp)
  ·rintro fr S' ⟨h0,h3,h7,d,p,h6,ha,hp,hpl⟩;rw[List.drop_length]at hp
   cases d with
   |true=>
    simp only[eT,if_true,cI]at hp;rw[←hp]at ha;obtain⟨f1,f2⟩:=ha.sl0 (DK _) (DI _) (DJ _);rw[af]
    simp -implicitDefEqProofs [h0,h3,h7,h6,hlen,f1,f2]
   |false=>
    simp only[eT,cF,if_false]at hp;obtain⟨v',S1,a1,a2,a3⟩:=ha.push (bytes:=24) (bz x) (by simp;omega);have a2:bB S 2 S1 v' ((p++[x]).map bz):=by rw[eh];exact a2
    rw[←hp]at a2;obtain⟨f1,f2⟩:=a2.sl0 (DK _) (DI _) (DJ _);simp only[bz]at a1;rw[af];simp -implicitDefEqProofs [h0,h3,h7,h6,hlen,aI,bL,bR,ae,a1,f1,f2])
 subst h2;exact⟨r,h,h3⟩
end Ps
