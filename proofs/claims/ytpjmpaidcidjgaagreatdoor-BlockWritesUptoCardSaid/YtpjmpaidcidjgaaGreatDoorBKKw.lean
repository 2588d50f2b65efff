/- Bits are laid down: sQ, writer, put, PutNum. -/
import Derived.Test.YtpjmpaidcidjgaaGreatDoorAbbKw
import Derived.Test.YtpjmpaidcidjgaaGreatDoorOkDKw
import Derived.Test.YtpjmpaidcidjgaaGreatDoorBIKw
set_option linter.defProp false
namespace Ps
set_option linter.unusedSimpArgs false
set_option linter.unusedVariables false
open Go
def db{T:aQ}{body:aL}{K:List Kt}{Q:Fr→St→Prop}(n:Nat)(P:Nat→Fr→St→Prop)
  (round:∀i fr S,i<n→P i fr S→(∀fr' S',P (i+1) fr' S'→Ok (aE T (.lp body::K) fr' S') Q)→Ok (aE T (.lp body::K) fr S) Q)
  (done:∀fr S,P n fr S→Ok (aE T (.lp body::K) fr S) Q) (i:Nat) (hi:i≤n) (fr:Fr) (S:St) (h:P i fr S):Ok (aE T (.lp body::K) fr S) Q:=by
 obtain⟨k,hk⟩:∃k,n-i=k:=⟨_,rfl⟩
 induction k generalizing i fr S with
 |zero=>
  have:i=n:=by omega
  subst this
  exact done fr S h
 |succ k ih=>exact round i fr S (by omega) h (fun fr' S' h'=>ih (i+1) (by omega) fr' S' h' (by omega))
def PR{fr:Fr}{S:St}{t n:Nat}{ag:Bool}:fN fr S (.cell t ag n)=cg S ag n (fr t):=by
 simp only[fN,cg];cases fr t<;>rfl
def YS{S S1 S2:St}{r v:PV}{fr:Fr}{raw ag:Bool}{t n:Nat}(h:cg S1 ag n (fr t)=some v)(k:ak raw S S1 v=(r,S2)):lL [.cell t ag n] raw S r S2 fr S1:=
 ⟨[v],by simp only[bh,PR,h],k⟩
def yc{S S1 S2:St}{r v w:PV}{fr:Fr}{raw ag:Bool}{t n u:Nat}(h:cg S1 ag n (fr t)=some v)(hu:fr u=w)(k:ak raw S S1 (.tup [v,w])=(r,S2)):lL [.cell t ag n,.tmp u] raw S r S2 fr S1:=
 ⟨[v,w],by subst hu;rw[←PR]at h;simp only[bh,h];rfl,k⟩
structure am(sz:Nat)(v:PV)(es:List PV):Prop where
 val:(v=.nils∧es=[])∨∃sp,v=.sl none es sp∧(∀e∈sp,e.cells.length=sz)∧PV.freeL sp=true∧PV.frzL sp=sp
 sz:∀e∈es,e.cells.length=sz
 fr:PV.freeL es=true
 fz:PV.frzL es=es
def am.reads{sz:Nat}{v:PV}{es:List PV}(h:am sz v es):bW sz v es:=by
 rcases h.val with⟨rfl,rfl⟩|⟨sp,rfl,_⟩
 ·exact tz sz
 ·exact uB h.sz
def am.isl{sz:Nat}{v:PV}{es:List PV}(h:am sz v es):cF sz v es:=by
 rcases h.val with⟨rfl,rfl⟩|⟨sp,rfl,hs,_⟩
 ·exact .inl ⟨rfl,rfl⟩
 ·exact .inr ⟨none,sp,rfl,fun e he=>(bd.1 he).elim (h.sz e) (hs e)⟩
def am.len{sz:Nat}{v:PV}{es:List PV}(h:am sz v es):dc false v=some (.int .i64 es.length):=h.reads.len
def am.free{sz:Nat}{v:PV}{es:List PV}(h:am sz v es):v.free=true:=by
 rcases h.val with⟨rfl,rfl⟩|⟨sp,rfl,_,hf,_⟩
 ·rfl
 ·simp[PV.free,h.fr,hf]
def am.frz{sz:Nat}{v:PV}{es:List PV}(h:am sz v es):v.frz=v:=by
 rcases h.val with⟨rfl,rfl⟩|⟨sp,rfl,_,_,hz⟩
 ·rfl
 ·simp[PV.frz,h.fz,hz]
def am.one{sz:Nat}{v:PV}{es:List PV}(h:am sz v es):v.one=true∧v.cells=[v]:=by
 rcases h.val with⟨rfl,rfl⟩|⟨sp,rfl,_⟩<;>exact⟨rfl,rfl⟩
def am.appd{sz:Nat}{v:PV}{es:List PV}(h:am sz v es)(S:St):dV S sz v=some es:=by
 rcases h.val with⟨rfl,rfl⟩|⟨sp,rfl,_⟩
 ·rfl
 ·rw[Ss,if_pos (mo h.sz)]
def ib(sz:Nat):am sz .nils []:=⟨.inl ⟨rfl,rfl⟩,by simp,rfl,rfl⟩
def ic{sz:Nat}{es:List PV}(h:∀e∈es,e.cells.length=sz)(hf:PV.freeL es=true)(hz:PV.frzL es=es):am sz (.sl none es []) es:=⟨.inr ⟨[],rfl,by simp,rfl,rfl⟩,h,hf,hz⟩
def ad.sl0{S0 S:St}{sz:Nat}{v:PV}{es:List PV}(h:ad S0 sz S v es)(hs:∀e∈es,e.cells.length=sz)(hf:PV.freeL es=true)(hz:PV.frzL es=es) :
  ak false S0 S v=(gu v es,S0)∧am sz (gu v es) es:=by
 refine⟨h.fin hf hz,?_,hs,hf,hz⟩;rcases h.acc with⟨rfl,rfl⟩|⟨id,_,rfl,_⟩
 ·exact .inl ⟨rfl,rfl⟩
 ·exact .inr ⟨[],rfl,by simp,rfl,rfl⟩
def ad.push{S0 S:St}{sz bytes:Nat}{v:PV}{es:List PV}(h:ad S0 sz S v es)(e:PV)(hb:(es.length+1)*bytes≤140737488355328) :
  ∃v' S',dF sz bytes ⟨S.objs,S.tips++[(1,sz)]⟩ v [e]=some (v',S')∧ad S0 sz S' v' (es++[e])∧S'.objs=S.objs:=by
 obtain⟨v',S',h1,h2,h3⟩:=(h.arrs [(1,sz)]).app (bytes:=bytes) [e] (by simpa using hb);exact⟨v',S',h1,h2,h3⟩
def yd(v:PV)(k:Nat):PV:=match v with|.sl _ es sp=>.sl none (es.take k) (es.drop k++sp)|_=>.nils
def am.slc{v:PV}{es:List PV}(h:am 1 v es){k:Nat}(hk:k≤es.length){j:IntKind}:dx 1 none (some (.int j (k:Int))) v=some (yd v k)∧am 1 (yd v k) (es.take k):=by
 have fzd:∀{l m:List PV},PV.frzL l=l→(∀(i:Nat) (x:PV),m[i]?=some x→∃j:Nat,l[j]?=some x)→PV.frzL m=m:=by
  intro l m hl hm;rw[fH]at hl ⊢
  have key:∀x∈l,x.frz=x:=by
   intro x hx;obtain⟨i,hi⟩:=gC hx;have e:=congrArg (fun l=>l[i]?) hl;simp only[gB,hi,jW,aw]at e;exact e
  have:m.map PV.frz=m.map id:=ly fun x hx=>by
   obtain⟨i,hi⟩:=gC hx;obtain⟨q,hq⟩:=hm i x hi;exact key x (dY hq)
  rw[this,pM]
 rcases h.val with⟨rfl,rfl⟩|⟨sp,rfl,hs,hf,hz⟩
 ·have:k=0:=by simpa using hk
  subst this;exact⟨by rw[rp,tx (by omega)];rfl,ib 1⟩
 ·have hsz:∀e∈es++sp,e.cells.length=1:=fun e he=>(bd.1 he).elim (h.sz e) (hs e);refine⟨?_,.inr ⟨es.drop k++sp,rfl,?_,?_,?_⟩,fun e he=>h.sz e (fm he),gT fun v hv=>dq h.fr v (fm hv),fzd h.fz fun i x hx=>?_⟩
  ·rw[ry,mo hsz,tx (by omega)];simp only[vO,bp,if_false,yd,pH,aw];rw[jy hk,vU hk];split<;>rfl
  ·intro e he;rcases bd.1 he with he|he
   ·exact h.sz e (fT he)
   ·exact hs e he
  ·refine gT fun v hv=>?_;rcases bd.1 hv with hv|hv
   ·exact dq h.fr v (fT hv)
   ·exact dq hf v hv
  ·have e1:PV.frzL (es.drop k)=es.drop k:=fzd h.fz fun i x hx=>⟨k+i,by rw[hU]at hx;exact hx⟩;rw[fH]at e1 hz ⊢;rw[dS,e1,hz]
  ·obtain⟨q,hq⟩:=gC (fm (dY hx));exact⟨q,hq⟩
def lJ:PV→Option Nat
 |.osl id _ _ _=>some id
 |_=>none
structure ig(S0:St)(sz:Nat)(S:St)(v:PV)(es:List PV):Prop where
 acc:((v=.emp∨v=.nils)∧es=[])∨∃id,S0.objs.length≤id∧v=.osl id 0 es.length sz∧S.objs[id]?=some (es.flatMap PV.cells)∧es≠[]
 ok:∀e∈es,e.cells.length=sz∧e.cells.all PV.one=true
theorem ye{sz:Nat}:∀{es:List PV},(∀e∈es,e.cells.length=sz)→(es.flatMap PV.cells).length=es.length*sz
 | [],_=>by simp
 |e::es,h=>by
  rw[dC,aZ,h e (by simp),ye (fun x hx=>h x (by simp[hx])),bE,dN];omega
def PS{es:List PV}(h:∀e∈es,e.cells.all PV.one=true):(es.flatMap PV.cells).all PV.one=true:=by
 rw[List.all_eq_true];intro x hx;obtain⟨e,he,hxe⟩:=List.mem_flatMap.1 hx;exact(List.all_eq_true.1 (h e he)) x hxe
def ig.app{S0 S:St}{sz bytes:Nat}{v:PV}{es new:List PV}(h:ig S0 sz S v es)(hg:aN S0 S)(hsz:0<sz)(hn:∀e∈new,e.cells.length=sz∧e.cells.all PV.one=true)(hb:(es.length+new.length)*bytes≤140737488355328) :
  ∃v' S',gr sz bytes S v new=some (v',S')∧ig S0 sz S' v' (es++new)∧aN S0 S'∧S'.tips=S.tips∧S.objs.length≤S'.objs.length ∧
   (∀i x,S.objs[i]?=some x→lJ v≠some i→S'.objs[i]?=some x)∧(∀i,lJ v'=some i→i<S.objs.length→lJ v=some i)∧(v≠.nils→v'≠.nils):=by
 have hok:∀e∈es++new,e.cells.length=sz∧e.cells.all PV.one=true:=fun e he=>by
  rcases bd.1 he with he|he
  ·exact h.ok e he
  ·exact hn e he
 obtain⟨o0,t0,rfl⟩:=hg;unfold gr
 cases new with
 |nil=>
  rcases h.acc with⟨hv|hv,rfl⟩|⟨id,h1,rfl,h2,h3⟩
  ·subst hv;exact⟨.emp,_,rfl,⟨.inl ⟨.inl rfl,rfl⟩,by simp⟩,⟨o0,t0,rfl⟩,rfl,aX _,fun _ _ h _=>h,fun i h=>(by cases h),fun h=>h⟩
  ·subst hv;exact⟨.nils,_,rfl,⟨.inl ⟨.inr rfl,rfl⟩,by simp⟩,⟨o0,t0,rfl⟩,rfl,aX _,fun _ _ h _=>h,fun i h=>(by cases h),fun h=>h⟩
  ·exact⟨_,_,by simp,⟨.inr ⟨id,h1,by simp,by simpa using h2,by simpa using h3⟩,hok⟩,⟨o0,t0,rfl⟩,rfl,aX _,fun _ _ h _=>h,fun i h _=>h,fun h=>h⟩
 |cons a new=>
  have hS:∀(x:List PV) (i:Nat) (y:List PV),(S0.objs++o0)[i]?=some y→((S0.objs++o0)++[x])[i]?=some y:=fun x i y h=>by
   rw[bF (aO.1 h).1];exact h
  simp only[pK,bp,if_false]
  have fresh:es=[]→∃v' S',(if(a::new).length*bytes≤140737488355328 then some (kM ⟨S0.objs++o0,S0.tips++t0⟩ sz (a::new))else none)=some (v',S')∧ig S0 sz S' v' (es++a::new)∧aN S0 S'∧S'.tips=S0.tips++t0∧(S0.objs++o0).length≤S'.objs.length ∧
   (∀i x,(S0.objs++o0)[i]?=some x→lJ v≠some i→S'.objs[i]?=some x)∧(∀i,lJ v'=some i→i<(S0.objs++o0).length→lJ v=some i)∧(v≠.nils→v'≠.nils):=by
   intro he;subst he;rw[if_pos (by simpa using hb)];refine⟨_,_,rfl,⟨.inr ⟨(S0.objs++o0).length,by simp,by simp,by simp,by simp⟩,hok⟩,⟨o0++[(a::new).flatMap PV.cells],t0,by simp[kM]⟩,rfl,by simp[kM],fun i x h _=>hS _ i x h,fun i h hlt=>?_,fun _ e=>by cases e⟩;simp only[kM,lJ,aw]at h;omega
  rcases h.acc with⟨hv|hv,he⟩|⟨id,h1,rfl,h2,h3⟩
  ·subst hv;exact fresh he
  ·subst hv;exact fresh he
  ·have hlt:=(aO.1 h2).1;have hfl:=ye (fun e he=>(h.ok e he).1)
   have hpos:0<(es.flatMap PV.cells).length:=by
    rw[hfl];have:0<es.length:=by cases es<;>simp at h3 ⊢
    exact Nat.mul_pos this hsz
   have htk:(es.flatMap PV.cells).take (es.length*sz)=es.flatMap PV.cells:=jz (by rw[hfl];exact aX _);simp only at h2;simp only[h2];rw[if_pos ⟨trivial,trivial,hpos,by rw[hfl];exact aX _,by rw[htk];exact PS (fun e he=>(h.ok e he).2),hb⟩,htk];refine⟨_,_,rfl,⟨.inr ⟨(S0.objs++o0).length,by simp,by simp,by simp,by simp⟩,hok⟩,⟨o0.set (id-S0.objs.length) []++[es.flatMap PV.cells++(a::new).flatMap PV.cells],t0,?_⟩,rfl,by simp,fun i x hx hne=>?_,fun i hi hlt2=>?_,fun _ e=>by cases e⟩
   ·simp only[St.mk.injEq,and_true];rw[vg _ _ h1,List.append_assoc]
   ·have hne':i≠id:=fun e=>hne (by rw[e];rfl);rw[bF (by simp;have:=(aO.1 hx).1;simpa using this),bn (Ne.symm hne')];exact hx
   ·simp only[lJ,aw]at hi;omega
theorem tf{objs:List (List PV)}{n0 k:Nat}:∀{l:List PV},PV.freeL l=true→cT (sol objs n0 (k+1)) l=some l
 | [],_=>rfl
 |a::l,h=>by
  simp only[PV.freeL,aJ]at h;simp only[cT,nP h.1,tf h.2]
theorem PT{sz:Nat}(hsz:2≤sz):∀{l:List (List PV)},(∀c∈l,c.length=sz)→∀{r:List PV},ct sz l.length (l.flatten++r)=l.map .agg
 | [],_,r=>rfl
 |c::l,h,r=>by
  have hc:=h c (by simp);simp only[bE,ct,List.flatten_cons,cV,List.append_assoc];rw[jy (by omega),jz (by omega),vU (by omega),sF (by omega),nX];rw[PT hsz (fun x hx=>h x (by simp[hx]))]
  congr 1
  unfold qn;split
  ·rename_i a;simp at hc;omega
  ·rfl
theorem PU:∀{l r:List PV},ct 1 l.length (l++r)=l
 | [],r=>rfl
 |c::l,r=>by
  simp only[bE,ct,jS,List.take_succ_cons,List.take_zero,List.drop_succ_cons,pH];rw[PU];rfl
def PW{objs:List (List PV)}{n0 k id n sz:Nat}{cs ds es:List PV}(hn:n0≤id)(hs:0<sz)(hc:objs[id]?=some cs)(hl:cs.length=n*sz)(ho:cs.all PV.one=true)(hm:cT (sol objs n0 k) cs=some ds)(he:ct sz n ds=es) :
  sol objs n0 (k+1) (.osl id 0 n sz)=some (.sl none es []):=by
 unfold sol;have htk:cs.take (n*sz)=cs:=jz (by omega);simp only[PV.free,bp,if_false,hn,hs,and_self,if_true,hc,cy,pH,htk,ho,hl,aX,hm,he]
def YT{objs:List (List PV)}{n0 k:Nat}:sol objs n0 (k+1) .emp=some (.sl none [] []):=by
 unfold sol;simp[PV.free]
end Ps
set_option linter.defProp false
namespace Ps
set_option linter.unusedSimpArgs false
set_option linter.unusedVariables false
open Go
def bD(u:Nat):Nat:=if u=0 then 0 else u.log2+1
def Uz{u n:Nat}(h1:2^n≤u)(h2:u<2^(n+1)):bD u=n+1:=by
 have h0:u≠0:=by have:=Nat.two_pow_pos n;omega
 unfold bD;rw[if_neg h0,(Nat.log2_eq_iff h0).2 ⟨h1,h2⟩]
def VA(u:Nat):u<2^bD u:=by
 unfold bD;split
 ·rename_i h;subst h;decide
 ·exact Nat.lt_log2_self
def Bq{u:Nat}(h:u≠0):2^(bD u-1)≤u∧0<bD u:=by
 unfold bD;rw[if_neg h];exact⟨Nat.log2_self_le h,Nat.succ_pos _⟩
def jb{u k:Nat}(h:u<2^k):bD u≤k:=by
 by_cases h0:u=0
 ·subst h0;exact bb _
 ·obtain⟨h1,h2⟩:=Bq h0;have:=(Nat.pow_lt_pow_iff_right (a:=2) (by decide)).1 (sL h1 h);omega
def sY{u k:Nat}(h:2^k≤u):bD u=k+bD (u/2^k):=by
 have hp:=Nat.two_pow_pos k
 have h0:u/2^k≠0:=by
  have:1≤u/2^k:=(Nat.le_div_iff_mul_le hp).2 (by omega);omega
 obtain⟨a1,a2⟩:=Bq h0;have a3:=VA (u/2^k);generalize hn:bD (u/2^k)=n at a1 a2 a3;obtain⟨m,rfl⟩:∃m,n=m+1:=⟨n-1,by omega⟩;rw[show m+1-1=m by omega]at a1
 have b1:2^(k+m)≤u:=by
  have:=(Nat.le_div_iff_mul_le hp).1 a1;rw[Nat.pow_add,nc];exact this
 have b2:u<2^(k+m+1):=by
  have:=(nb hp).1 a3;rw[show k+m+1=(m+1)+k by omega,Nat.pow_add];exact this
 rw[Uz b1 b2];omega
def VB:T.fn 373=some (.code qj):=rfl
def VC:∀x:Fin 256,([0,1,2,2,3,3,3,3,4,4,4,4,4,4,4,4,5,5,5,5,5,5,5,5,5,5,5,5,5,5,5,5,6,6,6,6,6,6,6,6,6,6,6,6,6,6,6,6,6,6,6,6,6,6,6,6,6,6,6,6,6,6,6,6,7,7,7,7,7,7,7,7,7,7,7,7,7,7,7,7,7,7,7,7,7,7,7,7,7,7,7,7,7,7,7,7,7,7,7,7,7,7,7,7,7,7,7,7,7,7,7,7,7,7,7,7,7,7,7,7,7,7,7,7,7,7,7,7,8,8,8,8,8,8,8,8,8,8,8,8,8,8,8,8,8,8,8,8,8,8,8,8,8,8,8,8,8,8,8,8,8,8,8,8,8,8,8,8,8,8,8,8,8,8,8,8,8,8,8,8,8,8,8,8,8,8,8,8,8,8,8,8,8,8,8,8,8,8,8,8,8,8,8,8,8,8,8,8,8,8,8,8,8,8,8,8,8,8,8,8,8,8,8,8,8,8,8,8,8,8,8,8,8,8,8,8,8,8,8,8,8,8,8,8,8,8,8,8,8,8,8,8,8,8,8,8]:List UInt8)[x.val]?=some (UInt8.ofNat (bD x.val)):=by decide +kernel
def Br:∀x:Fin 256,bD x.val≤8:=by decide +kernel
set_option maxRecDepth 100000 in
def VD{x:Nat}(h:x<256):dw (.str [0,1,2,2,3,3,3,3,4,4,4,4,4,4,4,4,5,5,5,5,5,5,5,5,5,5,5,5,5,5,5,5,6,6,6,6,6,6,6,6,6,6,6,6,6,6,6,6,6,6,6,6,6,6,6,6,6,6,6,6,6,6,6,6,7,7,7,7,7,7,7,7,7,7,7,7,7,7,7,7,7,7,7,7,7,7,7,7,7,7,7,7,7,7,7,7,7,7,7,7,7,7,7,7,7,7,7,7,7,7,7,7,7,7,7,7,7,7,7,7,7,7,7,7,7,7,7,7,8,8,8,8,8,8,8,8,8,8,8,8,8,8,8,8,8,8,8,8,8,8,8,8,8,8,8,8,8,8,8,8,8,8,8,8,8,8,8,8,8,8,8,8,8,8,8,8,8,8,8,8,8,8,8,8,8,8,8,8,8,8,8,8,8,8,8,8,8,8,8,8,8,8,8,8,8,8,8,8,8,8,8,8,8,8,8,8,8,8,8,8,8,8,8,8,8,8,8,8,8,8,8,8,8,8,8,8,8,8,8,8,8,8,8,8,8,8,8,8,8,8,8,8,8,8,8,8]) (.int .u8 (x:Int))=some (.int .u8 ((bD x:Nat):Int)):=by
 have h1:=VC ⟨x,h⟩;have h2:=Br ⟨x,h⟩;simp only at h1 h2;have h3:(UInt8.ofNat (bD x)).toNat=bD x:=by simp;omega
 have h4:(0:Int)≤(x:Int):=by omega
 rw[So,if_pos h4,pG,h1];simp only[h3]
set_option maxRecDepth 100000 in
def VE{K:List Kt}{fr:Fr}{S:St}{Q:Fr→St→Prop}{x c:Nat}(hx:x<256)(hc:c≤56)(h0:fr 0=.int .u64 (x:Int))(h2:fr 2=.int .i64 (c:Int))(k:∀fr',fr' 2=.int .i64 ((c+bD x:Nat):Int)→Ok (aE T K fr' S) Q) :
  Ok (aE T (.ops tV::K) fr S) Q:=by
 have hw:IntKind.u8.wrap (x:Int)=(x:Int):=vI (by omega) (by omega);have h8:=Br ⟨x,hx⟩;simp only at h8;have hw1:IntKind.i64.wrap ((bD x:Nat):Int)=((bD x:Nat):Int):=au (by omega) (by omega);have hw2:IntKind.i64.wrap ((c:Int)+((bD x:Nat):Int))=((c+bD x:Nat):Int):=by rw[au]<;>omega
 simp -implicitDefEqProofs [h0,h2,hw,VD hx,hw1,hw2,-So];exact k _ (by simp)
def VF{u:Nat}(hu:u<2^64)(S:St):aM T 373 [.int .u64 (u:Int)] S=some (.int .i64 ((bD u:Nat):Int),S):=by
 have ed:∀(a:Int) (k:Int),0<k→a.fdiv k=a/k:=fun a k hk=>pF _ (by omega);have e32:∀a:Int,arith .shr (.int .u64 a) (.int .u64 32)=some (.int .u64 (a/4294967296)):=fun a=>by rw[←ed a _ (by decide)];rfl
 have e16:∀a:Int,arith .shr (.int .u64 a) (.int .u64 16)=some (.int .u64 (a/65536)):=fun a=>by rw[←ed a _ (by decide)];rfl
 have e8:∀a:Int,arith .shr (.int .u64 a) (.int .u64 8)=some (.int .u64 (a/256)):=fun a=>by rw[←ed a _ (by decide)];rfl
 have w1:IntKind.i64.wrap 48=48:=rfl;have w2:IntKind.i64.wrap 56=56:=rfl;have w3:IntKind.i64.wrap 40=40:=rfl;have w4:IntKind.i64.wrap 24=24:=rfl;have w5:IntKind.i64.wrap 16=16:=rfl;have w6:IntKind.i64.wrap 8=8:=rfl;refine bP VB rfl ?_
 have fin:∀(a c:Nat) (fr:Fr),a<256→c≤56→bD u=c+bD a→fr 0=.int .u64 (a:Int)→fr 2=.int .i64 (c:Int) →
   Ok (aE T [.ops tV,.clr [(19,25)],.code .ret] fr S) (lL [.tmp 2] false S (.int .i64 ((bD u:Nat):Int)) S):=by
  intro a c fr ha hc hac h0 h2;refine VE ha hc h0 h2 (fun fr' g=>?_);simp[g,hac,aN.refl]
 have s32:4294967296≤u→bD u=32+bD (u/4294967296):=fun h=>sY (k:=32) h;have s16:∀a,65536≤a→bD a=16+bD (a/65536):=fun a h=>sY (k:=16) h;have s8:∀a,256≤a→bD a=8+bD (a/256):=fun a h=>sY (k:=8) h;simp -implicitDefEqProofs [qj,-Xu,e32,e16,e8,w1,w2,w3,w4,w5,w6];refine bV (fun a1=>bV (fun a2=>bV (fun a3=>?_) (fun a3=>?_)) (fun a2=>bV (fun a3=>?_) (fun a3=>?_))) (fun a1=>bV (fun a2=>bV (fun a3=>?_) (fun a3=>?_)) (fun a2=>bV (fun a3=>?_) (fun a3=>?_)))
 all_goals simp only[decide_eq_true_eq,decide_eq_false_iff_not]at a1 a2 a3
 ·refine fin (u/4294967296/65536/256) 56 _ (by omega) (by omega) ?_ (by simp) (by simp);rw[s32 (by omega),s16 _ (by omega),s8 _ (by omega)];omega
 ·refine fin (u/4294967296/65536) 48 _ (by omega) (by omega) ?_ (by simp) (by simp);rw[s32 (by omega),s16 _ (by omega)];omega
 ·refine fin (u/4294967296/256) 40 _ (by omega) (by omega) ?_ (by simp) (by simp);rw[s32 (by omega),s8 _ (by omega)];omega
 ·refine fin (u/4294967296) 32 _ (by omega) (by omega) ?_ (by simp) (by simp);rw[s32 (by omega)]
 ·refine fin (u/65536/256) 24 _ (by omega) (by omega) ?_ (by simp) (by simp);rw[s16 _ (by omega),s8 _ (by omega)];omega
 ·refine fin (u/65536) 16 _ (by omega) (by omega) ?_ (by simp) (by simp);rw[s16 _ (by omega)]
 ·refine fin (u/256) 8 _ (by omega) (by omega) ?_ (by simp) (by simp);rw[s8 _ (by omega)]
 ·refine fin u 0 _ (by omega) (by omega) (by omega) (by simp) (by simp)
def VG{u:Nat}(hu:u<2^64):di T 373 [.int .u64 (u:Int)]=some (.int .i64 ((bD u:Nat):Int)):=nV (VF hu bT) rfl
def VH:T.fn 413=some (.code pu):=rfl
def VI{n:Nat}(hn:n<4611686018427387904)(S:St):aM T 413 [.int .i64 (n:Int)] S=some (.int .i64 (((n+7)/8:Nat):Int),S):=by
 have h1:((n:Int).tmod 8)=((n%8:Nat):Int):=by rw[lx (by omega)];omega
 have h2:((n:Int).tdiv 8)=((n/8:Nat):Int):=by rw[Ap (by omega)];omega
 have w1:IntKind.i64.wrap ((n/8:Nat):Int)=((n/8:Nat):Int):=au (by omega) (by omega);have w2:IntKind.i64.wrap (((n/8:Nat):Int)+1)=((n/8+1:Nat):Int):=by rw[au]<;>omega
 refine bP VH rfl ?_;simp -implicitDefEqProofs [pu,h1,h2,w1,w2,-Int.natCast_ediv,-Int.natCast_emod,-Int.natCast_add];refine bV (fun a=>?_) (fun a=>?_)
 ·have:(n+7)/8=n/8:=by simp at a;omega
  simp[this,aN.refl]
 ·have:(n+7)/8=n/8+1:=by simp at a;omega
  simp[this,aN.refl]
def VJ{n:Nat}(hn:n<4611686018427387904):di T 413 [.int .i64 (n:Int)]=some (.int .i64 (((n+7)/8:Nat):Int)):=nV (VI hn bT) rfl
end Ps
set_option linter.defProp false
namespace Ps
set_option linter.unusedSimpArgs false
set_option linter.unusedVariables false
open Go
def Bs(bs:List UInt8)(n:Nat):Prop:=bs.length=(n+7)/8∧(n%8≠0→(bs.getD (bs.length-1) 0).toNat*2^(n%8)%256=0)
def Pk.rightB{bs:List UInt8}{l:List Bool}(h:Pk bs l):Bs bs l.length:=⟨h.1,fun hn=>Uy h hn⟩
def VK:T.fn 404=some (.code z64):=rfl
def fo{a b:PV}:az true 2 [a,b]=some (.agg [a,b]):=rfl
def bM{a:PV}{m:List PV}:az false 1 (a::m)=some a:=by simp[az]
def VL{a k:Nat}(hk:k≤8):arith .shl (.int .u8 (a:Int)) (.int .i64 (k:Int))=some (.int .u8 ((a*2^k%256:Nat):Int)):=by
 have h1:¬((k:Int)<0):=by omega
 have h2:min (k:Int).toNat IntKind.u8.bits=k:=by simp[IntKind.bits];omega
 simp only[arith,eX,qm,if_true,if_neg h1,h2];have:(a:Int)*2^k=((a*2^k:Nat):Int):=by norm_cast
 rw[this,iD]
def VM{bs:List UInt8}{bv:PV}(hv:am 1 bv (aI bs)){n:Nat}(hn:n<4611686018427387904)(hr:Bs bs n)(S:St):aM T 404 [.agg [bv,.int .i64 (n:Int)]] S=some (.bool true,S):=by
 obtain⟨r1,r2⟩:=hr;have hlen:=hv.len;obtain⟨o1,o2⟩:=hv.one;rw[bN]at hlen;have h0:¬((n:Int)<0):=by omega
 have hne:hJ T 413 [.int .i64 (n:Int)]=some (.int .i64 (((n+7)/8:Nat):Int)):=(sB rfl).trans (VJ hn);have hm:((n:Int).tmod 8)=((n%8:Nat):Int):=by rw[lx (by omega)];omega
 refine bP VK rfl ?_;by_cases h8:n%8=0
 ·have hz:(((n%8:Nat):Int)==0)=true:=by rw[h8];rfl
  simp -implicitDefEqProofs [z64,aH,bM,o1,o2,hlen,h0,hne,r1,hm,hz,-Int.natCast_ediv,-Int.natCast_emod,-Int.natCast_add]
 ·have hz:(((n%8:Nat):Int)==0)=false:=by simp;omega
  have hpos:0<bs.length:=by omega
  have hw:IntKind.i64.wrap (((bs.length:Nat):Int)-1)=((bs.length-1:Nat):Int):=by rw[au]<;>omega
  have hg:=hv.reads.get (bs.length-1) (by rw[bN];omega) .i64
  have hgx:(aI bs)[bs.length-1]'(by rw[bN];omega)=.int .u8 ((bs.getD (bs.length-1) 0).toNat:Int):=by
   simp[aI,ci,bX (show bs.length-1<bs.length by omega)]
  rw[hgx,Aa]at hg;have hs:=VL (a:=(bs.getD (bs.length-1) 0).toNat) (k:=n%8) (by omega);rw[r2 h8]at hs;generalize (((bs.getD (bs.length-1) 0).toNat:Nat):Int)=x at hg hs;simp -implicitDefEqProofs [z64,aH,bM,o1,o2,hlen,h0,hne,←r1,hm,hz,hw,hg,hs,-Int.natCast_ediv,-Int.natCast_emod,-Int.natCast_add]
end Ps
