/- block.Open, walked. -/
import Derived.Test.YtpjmpaidcidjgaaGreatDoorDefsKb
import Derived.Test.YtpjmpaidcidjgaaGreatDoorEKKb
set_option linter.defProp false
namespace Ps
set_option linter.unusedSimpArgs false
set_option linter.unusedVariables false
open Go Go.Proofs
set_option maxRecDepth 100000
def cG(ls:List (List aQ))(pss:List (List bi)):List cD:=(ls.zip pss).map fun p=>(p.1,gJ 0 1099511627776 p.2)
def RY{ls:List (List aQ)}{pss:List (List bi)}(h:pss.length=ls.length):(cG ls pss).length=ls.length:=by simp[cG,h]
def RZ{ls:List (List aQ)}{pss:List (List bi)}{i:Nat}(h:i<(cG ls pss).length)(h1:i<ls.length)(h2:i<pss.length):(cG ls pss)[i]=(ls[i],gJ 0 1099511627776 pss[i]):=by simp[cG]
def iZ.cells {v:PV} {s:cD} (h:iZ v s):v.cells.length=2:=by obtain⟨a,b,rfl,_⟩:=h;rfl
def iZ.free{v:PV}{s:cD}(h:iZ v s):v.free=true:=by
 obtain⟨a,b,rfl,h1,h2⟩:=h;simp[PV.free,PV.freeL,h1.free,h2.free]
def iZ.frz{v:PV}{s:cD}(h:iZ v s):v.frz=v:=by
 obtain⟨a,b,rfl,h1,h2⟩:=h;simp[PV.frz,PV.frzL,h1.frz,h2.frz]
def aAR:T2.fn 171=some (.code qC):=rfl
def Ra{S:St}{xb:Nat}{ls:List (List aQ)}{pss:List (List bi)}(h:jl S xb ls pss)(hl:pss.length=ls.length)(hN:ls.length≤4000000)(hN1:∀l∈ls,l.length≤4000000000)(hN2:∀ps∈pss,ps.length≤30000000) :
  ∃v',aN T2 171 [.ptr xb 0] S=some (v',S)∧iK v' (cG ls pss):=by
 obtain⟨ix,pv,h1,h2,es,h3,h4,h5⟩:=h.at_;have hlen:=h3.len;rw[h4]at hlen;have hsl:=RY hl
 have main:∀Q:Fr→St→Prop,(∀out qs fr' S',ah S 2 S' out qs→qs.length=ls.length→(∀(i:Nat) (h:i<(cG ls pss).length) (h':i<qs.length),iZ qs[i] (cG ls pss)[i])→fr' 2=out→Q fr' S')→Ok (aE T2 [.code qC.body] (bk [.ptr xb 0]) S) Q:=by
  intro Q k1;simp -implicitDefEqProofs [qC,lr,bI h1,bD,hlen];refine jm pss.length (fun i fr S'=>fr 0=.ptr xb 0∧fr 15=.int .i64 (pss.length:Int)∧fr 16=.int .i64 (i:Int)∧∃qs,ah S 2 S' (fr 3) qs∧qs.length=i∧∀(j:Nat) (h:j<(cG ls pss).length) (h':j<qs.length),iZ qs[j] (cG ls pss)[j]) ?_ ?_ 0 (by omega) _ _ ⟨by simp,by simp,by simp,[],by simpa using lG 2 (aL.refl S),rfl,fun j h h'=>by simp at h'⟩
  ·rintro i fr S' hi ⟨f0,f15,f16,qs,hA,hq,hqs⟩ k;have hii:(i:Int)<(pss.length:Int):=by omega
   have hw1:IntKind.i64.wrap ((i:Int)+1)=((i+1:Nat):Int):=by rw[au]<;>omega
   have hB:=h.more hA.grows;obtain⟨lv,l1,l2⟩:=aAI hB (i:=i) (by omega) (hN1 _ (List.getElem_mem (by omega)));obtain⟨sv,s1,s2⟩:=tI hB (i:=i) hi (by omega) (hN2 _ (List.getElem_mem hi)) (low:=0) (high:=1099511627776);obtain⟨o1,o2⟩:=l2.one;obtain⟨p1,p2⟩:=s2.one;obtain⟨out',S2,a1,a2,a3⟩:=hA.push (bytes:=48) (.agg [lv,sv]) (by omega);rw[ax];simp -implicitDefEqProofs [f0,f15,f16,hi,hii,l1,s1,aR,dx,ak,o1,o2,p1,p2,cY,dU,aG,a1];refine k _ _ ⟨by simp[f0],by simp[f15],by simp[hw1],qs++[.agg [lv,sv]],by simpa using a2,by simp[hq],fun j h h'=>?_⟩;simp only[am,bL,cW]at h';by_cases hj:j<qs.length
   ·rw[List.getElem_append_left hj];exact hqs j h hj
   ·have:j=i:=by omega
    subst this;rw[List.getElem_append_right (by omega),RZ h (by omega) hi];simp only[hq,yC,List.getElem_cons_zero];exact⟨lv,sv,rfl,l2,s2⟩
  ·rintro fr S' ⟨f0,f15,f16,qs,hA,hq,hqs⟩;rw[ax];simp -implicitDefEqProofs [f15,f16];exact k1 _ qs _ _ hA (by omega) hqs (by simp)
 obtain⟨⟨fr',S'⟩,hgv,out,qs,hA,hq,hqs,g2⟩:=main (fun fr' S'=>∃out qs,ah S 2 S' out qs∧qs.length=ls.length∧(∀(i:Nat) (h:i<(cG ls pss).length) (h':i<qs.length),iZ qs[i] (cG ls pss)[i])∧fr' 2=out) (fun out qs fr' S' a b c d=>⟨out,qs,a,b,c,d⟩);simp only at g2 hA
 have hc:∀e∈qs,e.cells.length=2:=fun x hx=>by
  obtain⟨i,hi,rfl⟩:=dz hx;exact(hqs i (by omega) hi).cells
 have hfree:PV.freeL qs=true:=il fun x hx=>by
  obtain⟨i,hi,rfl⟩:=dz hx;exact(hqs i (by omega) hi).free
 have hfrz:PV.frzL qs=qs:=wL fun x hx=>by
  obtain⟨i,hi,rfl⟩:=dz hx;exact(hqs i (by omega) hi).frz
 obtain⟨f1,f2⟩:=hA.sl0 hc hfree hfrz;refine⟨jo out qs,bZ aAR rfl ⟨(fr',S'),hgv,[fr' 2],rfl,by rw[g2];exact f1⟩,qs,f2,by omega,hqs⟩
def kL(l:List cD)(b:List UInt8):Bool:=decide (dT l=0)&&decide (cX l=b)
def Rb:T2.fn 165=some (.code z1):=rfl
def aAS{S:St}{xb r a:Nat}{bv:PV}{b:List UInt8}{ls:List (List aQ)}{pss:List (List bi)}(h:jl S xb ls pss)(hl:pss.length=ls.length)(hN:ls.length≤4000000)(hN1:∀l∈ls,l.length≤4000000000∧∀x∈l,x.1.length≤maxLen)(hN2:∀ps∈pss,ps.length≤30000000)(hN3:∀ps∈pss,(gJ 0 1099511627776 ps).length≤4000000000)
  (hv:ay 1 bv (aI b))(ho:S.objs[r]?=some [bv,.int .i64 (a:Int)]):aN T2 165 [.ptr r 0,.ptr xb 0] S=some (.bool (kL (cG ls pss) b),S):=by
 obtain⟨v',a1,a2⟩:=Ra h hl hN (fun l hm=>(hN1 l hm).1) hN2;have hsl:=RY hl
 have hle:lX (cG ls pss):=fun s hs=>by
  obtain⟨i,hi,rfl⟩:=dz hs;rw[RZ hi (by omega) (by omega)];have q:=hN1 _ (List.getElem_mem (show i<ls.length by omega));exact⟨⟨by simp only;unfold maxLen;omega,q.2⟩,hN3 _ (List.getElem_mem (by omega))⟩
 have t2:eX bv=some (.str b):=kC hv.isl;by_cases hz:dT (cG ls pss)=0
 ·have hw:aN T2 155 [v'] S=some (.tup [.sl none (aI (cn (cG ls pss))) [],.int .i64 0],S):=lm (yi a2 hle hz S);obtain⟨w,hwd⟩:∃w,w=PV.sl none (aI (cn (cG ls pss))) []:=⟨_,rfl⟩;have hws:ay 1 w (aI (cn (cG ls pss))):=by rw[hwd];exact lV _
  rw[←hwd]at hw;have hwl:=hws.len;rw[bh]at hwl;have hbl:(cn (cG ls pss)).length=(cX (cG ls pss)).length+4:=by rw[cn,am];rfl
  have hbo:=vI (kE hz);have hw4:IntKind.i64.wrap (((cn (cG ls pss)).length:Int)-4)=((cX (cG ls pss)).length:Int):=by rw[au]<;>omega
  obtain⟨s1,s2⟩:=hws.slc (k:=(cX (cG ls pss)).length) (j:=.i64) (by rw[bh];omega)
  have htk:(aI (cn (cG ls pss))).take (cX (cG ls pss)).length=aI (cX (cG ls pss)):=by
   simp only[aI,←np,cn,pZ]
  rw[htk]at s2;have t1:eX (oe w (cX (cG ls pss)).length)=some (.str (cX (cG ls pss))):=kC s2.isl
  have hc:kL (cG ls pss) b=(cX (cG ls pss)==b):=by
   rw[kL,hz,rK];simp
  rw[hc];generalize (cn (cG ls pss)).length=bl at hwl hw4;generalize cX (cG ls pss)=bd at s1 t1 hw4;refine bZ Rb rfl ?_;simp -implicitDefEqProofs [z1,a1,hw,hwl,hw4,s1,t1,bI ho,bD,t2]
 ·have hw:aN T2 155 [v'] S=some (.tup [.nils,.int .i64 (dT (cG ls pss):Int)],S):=lm (yh a2 hle (by omega) hz S);have hcz:(((dT (cG ls pss):Nat):Int)==0)=false:=by rw[beq_eq_false_iff_ne];omega
  have hc:kL (cG ls pss) b=false:=by rw[kL];simp[hz]
  rw[hc];generalize dT (cG ls pss)=bn at hw hcz;refine bZ Rb rfl ?_;simp -implicitDefEqProofs [z1,a1,hw,hcz]
end Ps
set_option linter.defProp false
namespace Ps
set_option linter.unusedSimpArgs false
set_option linter.unusedVariables false
open Go Go.Proofs
set_option maxRecDepth 100000
def aAT:tie2.P.funcs[tie2.fnOf 66]?=some Tryz.f14:=ZW
def aAU:pJ tie2 Tryz.f14 oI=true:=(Zw _ _).trans ZX
def hU(b:List UInt8):Nat→Nat→List (List bi)→Option (List (List bi)×Nat)
 |0,a,pss=>some (pss,a)
 |k+1,a,pss=>match gz b a with
  |some (ps,a')=>hU b k a' (pss++[ps])
  |none=>none
def qL(b:List UInt8):Bool:=decide (8≤b.length)&&decide (b.take 4=ec)&&decide (b.drop (b.length-4)=gG (b.take (b.length-4)))
noncomputable def fb (b:List UInt8):Option (List (List aQ)×List (List bi)):=
 if qL b=true then(match fZ (b.take (b.length-4)) 4 with
  |some (x,a)=>(match hJ x with
   |some ls=>(match hU (b.take (b.length-4)) ls.length a []with
    |some (pss,a')=>if a'=b.length-4∧fa pss≤65536∧kL (cG ls pss) (b.take (b.length-4))=true then some (ls,pss)else none
    |none=>none)
   |none=>none)
  |none=>none)
 else none
structure qN(S S':St):Prop where
 grows:aL S S'
 hx:∃xv,S'.objs[S.objs.length]?=some [xv]
 he:S'.objs[S.objs.length+1]?=some [.int .i64 0]
def aAV{S S3:St}{fr3:Fr}(f:S3.objs[S.objs.length]?≠none):lL tie2 vK [.ptr S.objs.length 0,.ptr (S.objs.length+1) 0] .nili S3 S3:=by
 have hfin:aW false S3 S3 (.tup [])=(.tup [],S3):=iq rfl rfl rfl rfl (fun _ _=>fg);refine⟨some 6,some 2,.tmp 6,_,rfl,rfl,?_⟩;simp -implicitDefEqProofs [aZ,vP,ev,gD,isNil,fu];exact⟨[],rfl,by show S3=(aW false S3 S3 (.tup [])).2;rw[hfin]⟩
def aAW:T2.fn 159=some (.exs mY):=rfl
def aAX{m:Int}{fr:Fr}{t:Nat}(h:fr t=cd m):aR fr (.asrI [3,2] (.tmp t))=some (.tup [cd m,.bool true]):=by
 simp[aR,ev,h,cd]
def aAY{S S3:St}{fr3:Fr}{m:Int}(h:qN S S3)(f2:fr3 2=.ptr S.objs.length 0)(f3:fr3 3=.ptr (S.objs.length+1) 0) :
  ∃S4 vs,lL tie2 vK [.ptr S.objs.length 0,.ptr (S.objs.length+1) 0] (cd m) S3 S4∧cF fr3 S4 [.cell 2 false 1,.cell 3 false 1]=some vs∧aW false S S4 (bb vs)=(.tup [.nilp,.int .i64 5],S):=by
 obtain⟨hg,⟨lv,hl⟩,he⟩:=h;have hn0:S.objs.length<S3.objs.length:=(aM.1 hl).1;have hn1:S.objs.length+1<S3.objs.length:=(aM.1 he).1;obtain⟨S5,hS5⟩:∃S5:St,S5=⟨((S3.objs++[[PV.int .i64 m]]).set S.objs.length [.nilp]).set (S.objs.length+1) [.int .i64 5],S3.tips⟩:=⟨_,rfl⟩
 have hg5:aL S S5:=by
  rw[hS5];exact da (S0:=S) (S:=⟨(S3.objs++[[PV.int .i64 m]]).set S.objs.length [.nilp],S3.tips⟩) (da (S0:=S) (S:=⟨S3.objs++[[PV.int .i64 m]],S3.tips⟩) (hg.objs [[.int .i64 m]]) (aU S.objs.length) [.nilp]) (Nat.le_succ S.objs.length) _
 have k0:S5.objs[S.objs.length]?=some [.nilp]:=by
  rw[hS5];simp only;rw[bU (by omega),cK (by simp;omega)]
 have k1:S5.objs[S.objs.length+1]?=some [.int .i64 5]:=by
  rw[hS5];simp only;rw[cK (by simp;omega)]
 obtain⟨X,x1,x2,x3⟩:=RH hg hg5;have hl':(S3.objs++[[PV.int .i64 m]])[S.objs.length]?=some [lv]:=by rw[bK hn0];exact hl
 have hq1:((S3.objs++[[PV.int .i64 m]]).set S.objs.length [.nilp])[S.objs.length+1]?=some [.int .i64 0]:=by rw[bU (by omega),bK hn1];exact he
 have has:aN T2 159 [cd m,.iface 2 (.ptr S3.objs.length 0)] ⟨S3.objs++[[PV.int .i64 0]],S3.tips⟩=some (.bool true,⟨S3.objs++[[PV.int .i64 m]],S3.tips⟩):=by
  refine vD aAW ?_;simp[cd,mY,ak]
 refine⟨X,[.nilp,.int .i64 5],⟨some 6,some 2,.tmp 6,_,rfl,rfl,?_⟩,?_,?_⟩
 ·have hgi:gD false .i (cd m)=some (.bool false):=rfl;have hpa:∀fr:Fr,fr 10=cd m→aR fr (.asrI [3,2] (.tmp 10))=some (.tup [cd m,.bool true]):=fun fr h=>aAX h;simp -implicitDefEqProofs [aZ,vP,zJ,zK,zL,zM,ev,hgi,fu,aG,bt,hpa,has,hl',hq1,ak];exact⟨[],rfl,by show X=(aW false S3 _ (.tup [])).2;rw[←hS5,x1]⟩
 ·have y0:=(x3 _ hn0).trans k0;have y1:=(x3 _ hn1).trans k1;simp[cF,gu,f2,f3,y0,y1,bD]
 ·show aW false S X (.tup [.nilp,.int .i64 5])=_;rw[cZ x2 rfl];rfl
def CL{S S':St}{i:Nat}(x:List PV)(hi:i<S.objs.length)(h:aL S S'):aL ⟨S.objs.set i x,S.tips⟩ ⟨S'.objs.set i x,S'.tips⟩:=by
 obtain⟨o,t,rfl⟩:=h;exact⟨o,t,by simp only[St.mk.injEq,and_true];rw[uR _ _ hi]⟩
def Rc{S S':St}{i sz:Nat}{v:PV}{es:List PV}(x:List PV)(hi:i<S.objs.length)(h:ah S sz S' v es):ah ⟨S.objs.set i x,S.tips⟩ sz ⟨S'.objs.set i x,S'.tips⟩ v es:=⟨CL x hi h.grows,h.acc⟩
structure wP(S:St)(B:St)(S':St)(xb r:Nat)(bv:PV)(a:Nat)(ls:List (List aQ))(pss:List (List bi)):Prop where
 base:aL S B
 rlt:S.objs.length+2=r∧r<xb∧xb<B.objs.length
 hx:B.objs[S.objs.length]?=some [.ptr xb 0]
 he:B.objs[S.objs.length+1]?=some [.int .i64 0]
 hr:B.objs[r]?=some [bv,.int .i64 (a:Int)]
 hb:∃ox pv es,B.objs[xb]?=some [.ptr ox 0,pv]∧ox≠xb∧eD B (.ptr ox 0) ls∧ah B 1 S' pv es∧es.length=pss.length∧∀(i:Nat) (h:i<pss.length) (h':i<es.length),∃qs,ba 4 es[i] qs∧fw qs pss[i]
end Ps
set_option linter.defProp false
namespace Ps
set_option linter.unusedSimpArgs false
set_option linter.unusedVariables false
open Go Go.Proofs
set_option maxRecDepth 100000
def eD.set{S:St}{p:PV}{ls:List (List aQ)}(h:eD S p ls){i:Nat}{x y:List PV}(hy:S.objs[i]?=some y)(h1:∀sv om,y≠[sv,.map om])(h2:∀kv,y≠cR kv):eD ⟨S.objs.set i x,S.tips⟩ p ls:=by
 obtain⟨ox,om,n0,sv,qs,kv,k1,k2,k3,k4,k5,k6⟩:=h.at_;have e1:i≠ox:=fun e=>by subst e;rw[hy]at k3;exact h1 _ _ (iz k3)
 have e2:i≠om:=fun e=>by subst e;rw[hy]at k4;exact h2 _ (iz k4)
 exact⟨ox,om,n0,sv,qs,kv,k1,k2,by simp only;rw[bU e1];exact k3,by simp only;rw[bU e2];exact k4,k5.more _ [] (by simp),k6⟩
def Rd{bv:PV}{b:List UInt8}{a:Int}(hv:ay 1 bv (aI b)):(∀sv om,[bv,PV.int .i64 a]≠[sv,.map om])∧∀kv,[bv,PV.int .i64 a]≠cR kv:=by
 refine⟨fun sv om h=>by simp at h,fun kv h=>?_⟩
 cases kv with
 |nil=>simp[cR]at h
 |cons e kv=>
  simp only[cR,dd,iH,nk]at h;rcases hv.val with⟨rfl,_⟩|⟨sp,rfl,_⟩<;>cases h.1
def Re{ox:Nat}{S0 S:St}{pv:PV}{es:List PV}(hA:ah S0 1 S pv es):(∀sv om,[PV.ptr ox 0,pv]≠[sv,.map om])∧∀kv,[PV.ptr ox 0,pv]≠cR kv:=by
 refine⟨fun sv om h=>?_,fun kv h=>?_⟩
 ·simp only[nk,and_true]at h;rcases hA.acc with⟨rfl,_⟩|⟨id,_,rfl,_⟩<;>cases h.2
 ·cases kv with
  |nil=>simp[cR]at h
  |cons e kv=>
   simp only[cR,dd,iH,nk]at h;cases h.1
structure wQ(n xb r:Nat)(fr:Fr):Prop where
 f2:fr 2=.ptr n 0
 f3:fr 3=.ptr (n+1) 0
 f4:fr 4=.ptr r 0
 f61:fr 61=.ptr xb 0
def aAZ{S B S':St}{xb r a N i:Nat}{bv:PV}{b:List UInt8}{ls:List (List aQ)}{pss:List (List bi)}{fr:Fr}{Post:Wx→Fr→St→Prop}(hv:ay 1 bv (aI b))(hb:b.length≤67108864)
  (h:wP S B S' xb r bv a ls pss)(hF:wQ S.objs.length xb r fr)(h63:fr 63=.int .i64 (N:Int))(h64:fr 64=.int .i64 (i:Int))(hi:i<N)(hN:N≤256)(hpl:pss.length=i)
  (hX:∀ps a' B' fr' S'',gz b a=some (ps,a')→wP S B' S'' xb r bv a' ls (pss++[ps])→wQ S.objs.length xb r fr'→fr' 63=.int .i64 (N:Int)→fr' 64=.int .i64 ((i+1:Nat):Int)→Post .norm fr' S'')
  (hP:∀m fr' S'',gz b a=none→qN S S''→fr' 2=.ptr S.objs.length 0→fr' 3=.ptr (S.objs.length+1) 0→Post (.pan (cd m)) fr' S''):W tie2 sD fr S' Post:=by
 obtain⟨f2,f3,f4,f61⟩:=hF;obtain⟨hbase,⟨hr1,hr2,hr3⟩,hx,he,hr,ox,pv,es,hbx,hoxx,hix,hA,hel,hes⟩:=h;have hgB:=hA.grows;have hx':=hgB.get hx;have he':=hgB.get he;have hr':=hgB.get hr;have hbx':=hgB.get hbx;have hlt:(i:Int)<(N:Int):=by omega
 have hw1:IntKind.i64.wrap ((i:Int)+1)=((i+1:Nat):Int):=by rw[au]<;>omega
 have hrB:=(aM.1 hr).1;unfold sD;refine bO tieOk2 rfl ?_;simp -implicitDefEqProofs [aZ,va,h63,h64,hlt];refine bw (gC (b:=true) (by simp[hlt,hi]) (mO ?_));refine bw (pM ?_);refine dC (dB tieOk2 ?_);unfold Gi;refine cw rfl ?_;simp -implicitDefEqProofs [aZ,f2,f4,f61,bI hx',bI hbx',bD];refine ez (by simp[dG]) (aAp hv hb hr') ?_ ?_
 rotate_left
 ·intro u S1 hq
  cases hs:gz b a with
  |some p=>rw[hs]at hq;obtain⟨ps,a'⟩:=p;obtain⟨v,S',qs,e,_⟩:=hq;cases e
  |none=>
   rw[hs]at hq;obtain⟨m,S2,a',e,hg⟩:=hq;cases e;have hg2:aL (bS B r bv a') S1:=(CL (S:=B) (i:=r) [bv,.int .i64 (a':Int)] hrB hgB).trans hg;refine hP m _ S1 hs ⟨(da hbase (by omega) _).trans hg2,⟨.ptr xb 0,hg2.get ?_⟩,hg2.get ?_⟩ (by simp[cj,f2]) (by simp[cj,f3])
   ·rw[kJ (by omega)];exact hx
   ·rw[kJ (by omega)];exact he
 intro psv S1 hq
 cases hs:gz b a with
 |none=>rw[hs]at hq;obtain⟨m,S2,a',e,_⟩:=hq;cases e
 |some p=>
 obtain⟨ps,a'⟩:=p;rw[hs]at hq;obtain⟨psv',S1',qs,e,hg1,hsl,hqs⟩:=hq;cases e;have hg2:aL (bS B r bv a') S1:=(CL (S:=B) (i:=r) [bv,.int .i64 (a':Int)] hrB hgB).trans hg1;have hA2:ah (bS B r bv a') 1 S1 pv es:=(Rc (S:=B) (i:=r) [bv,.int .i64 (a':Int)] hrB hA).more hg1;have hxx:S1.objs[S.objs.length]?=some [.ptr xb 0]:=hg2.get (by rw[kJ (by omega)];exact hx);have hbb:S1.objs[xb]?=some [.ptr ox 0,pv]:=hg2.get (by rw[kJ (by omega)];exact hbx);refine⟨fun t ht j o hj=>?_,?_⟩
 ·simp only[dI,xr,or_false]at ht;rcases ht with rfl|rfl
  ·simp[f2]at hj;obtain⟨rfl,_⟩:=hj;rw[hxx,hx']
  ·simp[f61]at hj;obtain⟨rfl,_⟩:=hj;rw[hbb,hbx']
 obtain⟨o1,o2⟩:=hsl.one;obtain⟨pv',S3,a1,a2,a3⟩:=hA2.push (bytes:=24) psv (by rw[hel,hpl];omega);have hb3:S3.objs[xb]?=some [.ptr ox 0,pv]:=by rw[a3];exact hbb
 have hpo:pv'.one=true∧pv'.cells=[pv']:=by
  rcases a2.acc with⟨rfl,_⟩|⟨_,_,rfl,_⟩<;>exact⟨rfl,rfl⟩
 refine eL rfl ?_;simp -implicitDefEqProofs [aZ,cY,dU,aG,o1,o2,a1,hb3,hpo.1,hpo.2,ak];refine kZ tieOk2 rfl ?_;simp -implicitDefEqProofs [aZ,zs,h64,hw1];have hbl:(bS B r bv a').objs.length=B.objs.length:=CF;refine hX ps a' ⟨(bS B r bv a').objs.set xb [.ptr ox 0,pv'],B.tips⟩ _ _ hs ⟨?_,⟨hr1,hr2,by simp only[uP];omega⟩,?_,?_,?_,ox,pv',es++[psv],?_,hoxx,?_,?_,by simp[hel],fun j h1 h2=>?_⟩ ⟨by simp[f2],by simp[f3],by simp[f4],by simp[f61]⟩ (by simp[h63]) (by simp)
 ·exact da (S:=bS B r bv a') (da hbase (by omega) _) (by omega) _
 ·simp only;rw[bU (by omega),kJ (by omega)];exact hx
 ·simp only;rw[bU (by omega),kJ (by omega)];exact he
 ·simp only;rw[bU (by omega)];exact tE hrB
 ·simp only;rw[cK (by omega)]
 ·have i1:eD (bS B r bv a') (.ptr ox 0) ls:=hix.set hr (Rd hv).1 (Rd hv).2;exact eD.set (S:=bS B r bv a') i1 (i:=xb) (y:=[.ptr ox 0,pv]) (by rw[kJ (by omega)];exact hbx) (Re hA).1 (Re hA).2
 ·exact Rc (S:=bS B r bv a') (i:=xb) [.ptr ox 0,pv'] (by omega) a2
 ·simp only[am,bL,cW]at h1 h2;by_cases hj:j<es.length
  ·rw[List.getElem_append_left hj,List.getElem_append_left (by omega)];exact hes j (by omega) hj
  ·have e:j=es.length:=by omega
   subst e;rw[List.getElem_append_right (by omega),List.getElem_append_right (by omega)];simp only[yC,List.getElem_cons_zero,hel];exact⟨qs,hsl,hqs⟩
def aA0{S:St}{xb r N:Nat}{bv:PV}{b:List UInt8}{ls:List (List aQ)}{Post:Wx→Fr→St→Prop}(hv:ay 1 bv (aI b))(hb:b.length≤67108864)(hN:N≤256) :
  ∀(k i a:Nat) (pss:List (List bi)) (B:St) (fr:Fr) (S':St),i+k=N→pss.length=i→wP S B S' xb r bv a ls pss→wQ S.objs.length xb r fr→fr 63=.int .i64 (N:Int)→fr 64=.int .i64 (i:Int) →
  (∀pss' a' B' fr' S'',hU b k a pss=some (pss',a')→wP S B' S'' xb r bv a' ls pss'→wQ S.objs.length xb r fr'→pss'.length=N→Post (.exit 0) fr' S'') →
  (∀m fr' S'',hU b k a pss=none→qN S S''→fr' 2=.ptr S.objs.length 0→fr' 3=.ptr (S.objs.length+1) 0→Post (.pan (cd m)) fr' S'')→WL tie2 sD fr S' Post:=by
 intro k
 induction k with
 |zero=>
  intro i a pss B fr S' hik hpl h hF h63 h64 hX hP;have hlt:¬(i:Int)<(N:Int):=by omega
  have hln:¬i<N:=by omega
  refine rI ?_;unfold sD;refine bO tieOk2 rfl ?_;simp -implicitDefEqProofs [aZ,va,h63,h64,hlt,hln];refine bw (gC (b:=false) (by simp) (Dv ?_))
  exact hX pss a B _ S' rfl h ⟨by simp[hF.f2],by simp[hF.f3],by simp[hF.f4],by simp[hF.f61]⟩ (by omega)
 |succ k ih=>
  intro i a pss B fr S' hik hpl h hF h63 h64 hX hP;refine rI (aAZ hv hb h hF h63 h64 (by omega) hN hpl ?_ ?_)
  ·intro ps a' B' fr' S'' hs h' hF' g63 g64;have e:hU b (k+1) a pss=hU b k a' (pss++[ps]):=by rw[hU,hs]
   exact ih (i+1) a' (pss++[ps]) B' fr' S'' (by omega) (by simp[hpl]) h' hF' g63 g64 (fun p2 a2 B2 fr2 S2 q=>hX p2 a2 B2 fr2 S2 (e.trans q)) (fun m fr2 S2 q=>hP m fr2 S2 (e.trans q))
  ·intro m fr' S'' hs hp e2 e3;exact hP m fr' S'' (by rw[hU,hs]) hp e2 e3
end Ps
set_option linter.defProp false
namespace Ps
set_option linter.unusedSimpArgs false
set_option linter.unusedVariables false
open Go Go.Proofs
set_option maxRecDepth 100000
def kM{d t1 t2:Nat}{fr:Fr}{S:St}{r a:Nat}{bv:PV}{ok:Bool}{Pst:Wo→Prop}(ho:S.objs[r]?=some [bv,.int .i64 (a:Int)])(h1:fr t1=.ptr r 0)(h2:fr t2=.bool ok)(k1:ok=false→Pst (.pan (cd a) S))(k2:ok=true→Pst (.norm (upd fr d (.tup [])) S)) :
  cT tie2 (Q d (.wc [] (.cst (.fn 160 [])) [(.tmp t1),(.tmp t2)])::[]) fr S Pst:=by
 refine ez (by simp[dG,h1,h2]) (tF (ok:=ok) ho) ?_ ?_
 ·intro u S4 hq;refine⟨fun q hq=>(by cases hq),?_⟩
  cases ok with
  |true=>
   have:=hq.1 rfl;cases this
   exact k2 rfl
  |false=>have:=hq.2 rfl;cases this
 ·intro u S4 hq
  cases ok with
  |true=>have:=hq.1 rfl;cases this
  |false=>
   have:=hq.2 rfl;cases this;exact k1 rfl
def aA1{b:List UInt8}{n:Nat}:∀{k i a:Nat} {last:Int} {ps ps':List bi} {a':Nat},iR b n k i a last ps=some (ps',a')→ps'.length=ps.length+k:=by
 intro k
 induction k with
 |zero=>intro i a last ps ps' a' h;simp only[iR,ap,bc]at h;obtain⟨rfl,_⟩:=h;rfl
 |succ k ih=>
  intro i a last ps ps' a' h;rw[iR]at h;split at h
  ·have:=ih h;simp at this;omega
  ·cases h
def aA2{b:List UInt8}{a a':Nat}{ps:List bi}(h:gz b a=some (ps,a')):1≤ps.length∧ps.length≤65536:=by
 unfold gz at h;split at h
 ·split at h
  ·have:=aA1 h;simp at this;omega
  ·cases h
 ·cases h
def Rf{b:List UInt8}:∀{k a:Nat} {pss pss':List (List bi)} {a':Nat},hU b k a pss=some (pss',a')→(∀ps∈pss,ps.length≤65536)→(∀ps∈pss',ps.length≤65536)∧pss'.length=pss.length+k:=by
 intro k
 induction k with
 |zero=>intro a pss pss' a' h hp;simp only[hU,ap,bc]at h;obtain⟨rfl,_⟩:=h;exact⟨hp,rfl⟩
 |succ k ih=>
  intro a pss pss' a' h hp;rw[hU]at h;split at h
  ·rename_i ps a1 hs
   obtain⟨q1,q2⟩:=ih h (fun q hq=>by
    rcases bg.1 hq with hq|hq
    ·exact hp q hq
    ·rw[jW]at hq;subst hq;exact(aA2 hs).2)
   exact⟨q1,by simp at q2;omega⟩
  ·cases h
theorem CN{M:Nat}:∀{l:List Nat},(∀n∈l,n≤M)→l.sum≤M*l.length
 | [],_=>by simp
 |a::l,h=>by
  have h1:=h a (by simp);have h2:=CN (l:=l) fun n hn=>h n (by simp[hn]);rw[pY,bL,Nat.mul_add];omega
def aA3{pss:List (List bi)}(h1:∀ps∈pss,ps.length≤65536∧∀p∈ps,p.2.length≤120)(h2:pss.length≤256):fa pss≤7864320*256:=by
 have:fa pss≤7864320*(pss.map jL).length:=CN fun n hn=>by
  obtain⟨ps,hps,rfl⟩:=List.mem_map.1 hn;obtain⟨q1,q2⟩:=h1 ps hps
  have:jL ps≤120*(ps.map fun p=>p.2.length).length:=CN fun n hn=>by
   obtain⟨p,hp,rfl⟩:=List.mem_map.1 hn;exact q2 p hp
  rw[bz]at this;omega
 rw[bz]at this;omega
def wO.le{pv:PV}{pss:List (List bi)}(h:wO pv pss):∀ps∈pss,∀p∈ps,p.2.length≤120:=by
 obtain⟨es,_,h1,h2⟩:=h;intro ps hps p hp;obtain⟨i,hi,rfl⟩:=dz hps;obtain⟨qs,_,hq⟩:=h2 i hi (by omega);obtain⟨j,hj,rfl⟩:=dz hp;obtain⟨bv,_,_,hd,_⟩:=hq.2 j (by have:=hq.1;omega) hj;exact(wK hd).2
def tJ{S:St}{v:PV}{b:List UInt8}(hv:ay 1 v (aI b))(hb:b.length≤67108864):dc tie2 66 [v] S (fun q=>match fb b with
  |none=>q=.ret (.tup [.nilp,.int .i64 5]) S
  |some (ls,pss)=>∃xb S',q=.ret (.tup [.ptr xb 0,.int .i64 0]) S'∧aL S S'∧jl S' xb ls pss):=by
 obtain⟨S1,hS1⟩:∃S1:St,S1=⟨S.objs++[[.nilp],[.int .i64 0]],S.tips⟩:=⟨_,rfl⟩;have hvl:=hv.len;rw[bh]at hvl;obtain⟨o1,o2⟩:=hv.one
 refine Uk tieOk2 aAT aAU (c:=oI) (S1:=S1) (S2:=S1) (fr1:=upd (upd (bk [v]) 2 (.ptr S.objs.length 0)) 3 (.ptr (S.objs.length+1) 0))
  (fr2:=upd (upd (upd (bk [v]) 2 (.ptr S.objs.length 0)) 3 (.ptr (S.objs.length+1) 0)) 7 (.fn 158 [.ptr S.objs.length 0,.ptr (S.objs.length+1) 0])) (cf:=158) (rc:=vK) (caps:=[.ptr S.objs.length 0,.ptr (S.objs.length+1) 0]) rfl rfl ⟨_,_,fun K=>?_,rfl,rfl⟩ rfl rfl ?_
 ·simp -implicitDefEqProofs [aZ,zn,aG,bt,hS1]
 have hg1:aL S S1:=⟨[[.nilp],[.int .i64 0]],[],by rw[hS1];simp⟩;have h1l:S1.objs.length=S.objs.length+2:=by rw[hS1];simp
 have h1x:S1.objs[S.objs.length]?=some [.nilp]:=by rw[hS1];simp
 have h1e:S1.objs[S.objs.length+1]?=some [.int .i64 0]:=by rw[hS1];simp
 have main:∀PP:Wx→Fr→St→Prop,(∀(m:Int) (fr3:Fr) (S3:St),fb b=none→qN S S3→fr3 2=.ptr S.objs.length 0→fr3 3=.ptr (S.objs.length+1) 0→PP (.pan (cd m)) fr3 S3) →
   (∀(ls:List (List aQ)) (pss:List (List bi)) (xb:Nat) (fr3:Fr) (S3:St),fb b=some (ls,pss)→aL S S3→jl S3 xb ls pss→S3.objs[S.objs.length]?=some [.ptr xb 0]→S3.objs[S.objs.length+1]?=some [.int .i64 0]→S.objs.length≤xb→fr3 2=.ptr S.objs.length 0→fr3 3=.ptr (S.objs.length+1) 0→PP .ret fr3 S3) →
   W tie2 oI.rest (upd (upd (upd (bk [v]) 2 (.ptr S.objs.length 0)) 3 (.ptr (S.objs.length+1) 0)) 7 (.fn 158 [.ptr S.objs.length 0,.ptr (S.objs.length+1) 0])) S1 PP:=by
  intro PP hP hR;unfold oI;simp only;refine bO tieOk2 rfl ?_;simp -implicitDefEqProofs [aZ,zo,aR,dx,ak,o1,o2,aG,bt,h1l];obtain⟨r,hr⟩:∃r,r=S.objs.length+2:=⟨_,rfl⟩;rw[←hr];obtain⟨S2,hS2⟩:∃S2:St,S2=⟨S1.objs++[[v,.int .i64 0]],S1.tips⟩:=⟨_,rfl⟩;rw[←hS2];have h2l:S2.objs.length=r+1:=by rw[hS2,hr];simp[h1l]
  have hg2:aL S S2:=by rw[hS2];exact hg1.obj _
  have h2r:S2.objs[r]?=some [v,.int .i64 ((0:Nat):Int)]:=by rw[hS2,hr,←h1l];simp
  have h2x:S2.objs[S.objs.length]?=some [.nilp]:=by rw[hS2];simp only;rw[bK (by omega)];exact h1x
  have h2e:S2.objs[S.objs.length+1]?=some [.int .i64 0]:=by rw[hS2];simp only;rw[bK (by omega)];exact h1e
  have hop2:qN S S2:=⟨hg2,⟨_,h2x⟩,h2e⟩;have hho:qL b=(decide (8≤b.length)&&decide (b.take 4=ec)&&decide (b.drop (b.length-4)=gG (b.take (b.length-4)))):=rfl;refine bw (dC (dB tieOk2 ?_));unfold Ge;refine cw rfl ?_;by_cases c1:8≤b.length
  rotate_left
  ·have hc1:¬(8:Int)≤(b.length:Int):=by omega
   have hno:fb b=none:=by rw[fb,if_neg (by rw[hho];simp[c1])]
   simp -implicitDefEqProofs [aZ,hvl,hc1,c1];exact kM (ok:=false) h2r (by simp) (by simp) (fun _=>hP _ _ _ hno hop2 (by simp[cj]) (by simp[cj])) (fun h=>by cases h)
  have hc1:(8:Int)≤(b.length:Int):=by omega
  obtain⟨z1,z2⟩:=hv.slc (k:=4) (j:=.i64) (by rw[bh];omega);have z1:eM 1 none (some (.int .i64 4)) v=some (oe v 4):=z1;have htk4:(aI b).take 4=aI (b.take 4):=by simp only[aI,np]
  rw[htk4]at z2;have z3:eX (oe v 4)=some (.str (b.take 4)):=kC z2.isl;by_cases c2:b.take 4=ec
  rotate_left
  ·have hc2:(b.take 4==[71,66,75,49])=false:=by rw[beq_eq_false_iff_ne];exact c2
   have hno:fb b=none:=by rw[fb,if_neg (by rw[hho];simp[c2])]
   generalize b.take 4=b4 at z3 hc2;simp -implicitDefEqProofs [aZ,hvl,hc1,c1,z1,z3,hc2];exact kM (ok:=false) h2r (by simp) (by simp) (fun _=>hP _ _ _ hno hop2 (by simp[cj]) (by simp[cj])) (fun h=>by cases h)
  have hc2:(b.take 4==[71,66,75,49])=true:=by rw[beq_iff_eq];exact c2
  generalize b.take 4=b4 at z3 hc2;simp -implicitDefEqProofs [aZ,hvl,hc1,c1,z1,z3,hc2];refine kM (ok:=true) h2r (by simp) (by simp) (fun h=>by cases h) (fun _=>?_);clear z1 z2 z3 hc2 htk4;simp only;have hw4:IntKind.i64.wrap ((b.length:Int)-4)=((b.length-4:Nat):Int):=by rw[au]<;>omega
  obtain⟨lv,y1,y2⟩:=hv.isl.lo (lo:=b.length-4) (k:=.i64) (by rw[bh];omega);have hdr:(aI b).drop (b.length-4)=aI (b.drop (b.length-4)):=by simp only[aI,rO]
  rw[hdr]at y2;have y3:eX lv=some (.str (b.drop (b.length-4))):=kC y2;obtain⟨z1,z2⟩:=hv.slc (k:=b.length-4) (j:=.i64) (by rw[bh];omega);have htk:(aI b).take (b.length-4)=aI (b.take (b.length-4)):=by simp only[aI,np]
  rw[htk]at z2;obtain⟨bv,hbv⟩:∃bv,bv=oe v (b.length-4):=⟨_,rfl⟩;rw[←hbv]at z1 z2;obtain⟨c,hc⟩:∃c,c=b.take (b.length-4):=⟨_,rfl⟩;have hcl:c.length=b.length-4:=by rw[hc,iW];omega
  rw[←hc]at z2;have hs4:∀S,aN T2 161 [bv] S=some (.sl none (aI (gG c)) [],S):=fun S=>lm (Fz z2.reads (by omega) S);have y4:eX (.sl none (aI (gG c)) [])=some (.str (gG c)):=kC (lV _).isl
  have hoo:fb b=if qL b=true then(match fZ c 4 with
   |some (x,a)=>(match hJ x with
    |some ls=>(match hU c ls.length a []with
     |some (pss,a')=>if a'=b.length-4∧fa pss≤65536∧kL (cG ls pss) c=true then some (ls,pss)else none
     |none=>none)
    |none=>none)
   |none=>none)
  else none:=by rw[hc];rfl
  rw[←hc]at hho;refine bw (dC (dB tieOk2 ?_));unfold Gf;refine cw rfl ?_;by_cases c3:b.drop (b.length-4)=gG c
  rotate_left
  ·have hc3:(b.drop (b.length-4)==gG c)=false:=by rw[beq_eq_false_iff_ne];exact c3
   have hno:fb b=none:=by rw[hoo,if_neg (by rw[hho];simp[c3])]
   generalize b.drop (b.length-4)=bd at y3 hc3;generalize gG c=sc at hs4 y4 hc3;simp -implicitDefEqProofs [aZ,hvl,hw4,y1,y3,z1,hs4,y4,hc3];exact kM (ok:=false) h2r (by simp) (by simp) (fun _=>hP _ _ _ hno hop2 (by simp[cj]) (by simp[cj])) (fun h=>by cases h)
  have hc3:(b.drop (b.length-4)==gG c)=true:=by rw[beq_iff_eq];exact c3
  rw[if_pos (by rw[hho];simp[c1,c2,c3])]at hoo;generalize b.drop (b.length-4)=bd at y3 hc3;generalize gG c=sc at hs4 y4 hc3;simp -implicitDefEqProofs [aZ,hvl,hw4,y1,y3,z1,hs4,y4,hc3];refine kM (ok:=true) h2r (by simp) (by simp) (fun h=>by cases h) (fun _=>?_);clear y1 y2 y3 hs4 y4 hc3 hdr htk;simp only;obtain⟨p1,p2⟩:=z2.one;have h2r':S2.objs[r]?=some [v,.int .i64 0]:=h2r;have hrl:r<S2.objs.length:=by omega
  have hself:∀x:List PV,(S2.objs.set r x)[r]?=some x:=fun x=>cK hrl;refine bO tieOk2 rfl ?_;simp -implicitDefEqProofs [aZ,zp,hvl,hw4,z1,aG,h2r',hself,p1,p2,ak];obtain⟨S3,hS3⟩:∃S3:St,S3=⟨S2.objs.set r [bv,.int .i64 4],S2.tips⟩:=⟨_,rfl⟩;rw[←hS3];have h3l:S3.objs.length=r+1:=by rw[hS3];simp[h2l]
  have hg3:aL S S3:=by rw[hS3];exact da hg2 (by omega) _
  have h3r:S3.objs[r]?=some [bv,.int .i64 ((4:Nat):Int)]:=by rw[hS3];exact hself _
  have h3x:S3.objs[S.objs.length]?=some [.nilp]:=by rw[hS3];simp only;rw[bU (by omega)];exact h2x
  have h3e:S3.objs[S.objs.length+1]?=some [.int .i64 0]:=by rw[hS3];simp only;rw[bU (by omega)];exact h2e
  clear hS3 hS2;refine bw (dC (dB tieOk2 ?_));unfold Gg;refine cw rfl ?_;simp -implicitDefEqProofs [aZ];refine ez (by simp[dG]) (RO z2 (by omega) h3r) ?_ ?_
  rotate_left
  ·intro u S4 hq
   cases hp:fZ c 4 with
   |some p=>rw[hp]at hq;obtain⟨x,a⟩:=p;obtain⟨xv,_,e⟩:=hq;cases e
   |none=>
    rw[hp]at hq;obtain⟨m,a',e⟩:=hq;cases e;rw[hp]at hoo;refine hP _ _ _ hoo ⟨da hg3 (by omega) _,⟨.nilp,?_⟩,?_⟩ (by simp[cj]) (by simp[cj])
    ·rw[kJ (by omega)];exact h3x
    ·rw[kJ (by omega)];exact h3e
  intro xv S4 hq;refine⟨fun q hq=>(by cases hq),?_⟩
  cases hp:fZ c 4 with
  |none=>rw[hp]at hq;obtain⟨m,a',e⟩:=hq;cases e
  |some p=>
  obtain⟨x,a⟩:=p;rw[hp]at hq hoo;obtain⟨xv',hx,e⟩:=hq;cases e;simp only at hoo;obtain⟨ha,hxl⟩:=RN hp;obtain⟨S4,hS4⟩:∃S4,S4=bS S3 r bv a:=⟨_,rfl⟩;have h4r:S4.objs[r]?=some [bv,.int .i64 (a:Int)]:=by rw[hS4];exact tE (by omega)
  have h4x:S4.objs[S.objs.length]?=some [.nilp]:=by rw[hS4,kJ (by omega)];exact h3x
  have h4e:S4.objs[S.objs.length+1]?=some [.int .i64 0]:=by rw[hS4,kJ (by omega)];exact h3e
  have hg4:aL S S4:=by rw[hS4];exact da hg3 (by omega) _
  have h4l:S4.objs.length=r+1:=by rw[hS4,CF];exact h3l
  rw[←hS4];clear hS4;obtain⟨of1,of2⟩:=aAC hx (by omega) S4
  cases hof:hJ x with
  |none=>
   rw[hof]at hoo;have hcv:=of1 hof;refine eL rfl ?_;simp -implicitDefEqProofs [aZ,hcv];refine bw (dC (dB tieOk2 ?_));unfold zC;refine cw rfl ?_;simp -implicitDefEqProofs [aZ]
   exact kM (ok:=false) h4r (by simp) (by simp) (fun _=>hP _ _ _ hoo ⟨hg4,⟨_,h4x⟩,h4e⟩ (by simp[cj]) (by simp[cj])) (fun h=>by cases h)
  |some ls=>
  rw[hof]at hoo;simp only at hoo;obtain⟨S5,ox,hcv,hg45,hix,hnz,hox⟩:=of2 ls hof
  have hlsl:ls.length≤256:=by
   have:=hnz;unfold dZ at this;split at this
   ·cases this
   ·omega
  have h5r:=hg45.get h4r;have h5x:=hg45.get h4x;have h5e:=hg45.get h4e;have hg5:=hg4.trans hg45;have h5l:r+1≤S5.objs.length:=by obtain⟨o,t,e⟩:=hg45;rw[e];simp;omega
  refine eL rfl ?_;simp -implicitDefEqProofs [aZ,hcv];refine bw (dC (dB tieOk2 ?_));unfold zC;refine cw rfl ?_;simp -implicitDefEqProofs [aZ];refine kM (ok:=true) h5r (by simp) (by simp) (fun h=>by cases h) (fun _=>?_);simp only;obtain⟨xb,hxb⟩:∃xb,xb=S5.objs.length:=⟨_,rfl⟩;obtain⟨B,hB⟩:∃B:St,B=⟨(S5.objs++[[PV.ptr ox 0,.nils]]).set S.objs.length [.ptr xb 0],S5.tips⟩:=⟨_,rfl⟩;have h5x':(S5.objs++[[PV.ptr ox 0,.nils]])[S.objs.length]?=some [.nilp]:=by rw[bK (by omega)];exact h5x
  refine bO tieOk2 rfl ?_;simp -implicitDefEqProofs [aZ,zq,aR,dx,ak,aG,bt,h5x'];rw[←hxb,←hB];have hgB:aL S B:=by rw[hB];exact da (S:=⟨S5.objs++[[PV.ptr ox 0,.nils]],S5.tips⟩) (hg5.obj _) (aU _) _
  have hBl:B.objs.length=xb+1:=by rw[hB,hxb];simp
  have hBx:B.objs[S.objs.length]?=some [.ptr xb 0]:=by rw[hB];simp only;rw[cK (by simp;omega)]
  have hBe:B.objs[S.objs.length+1]?=some [.int .i64 0]:=by rw[hB];simp only;rw[bU (by omega),bK (by omega)];exact h5e
  have hBr:B.objs[r]?=some [bv,.int .i64 (a:Int)]:=by rw[hB];simp only;rw[bU (by omega),bK (by omega)];exact h5r
  have hBb:B.objs[xb]?=some [.ptr ox 0,.nils]:=by rw[hB,hxb];simp only;rw[bU (by omega)];simp
  have hBi:eD B (.ptr ox 0) ls:=by
   have i1:eD ⟨S5.objs++[[PV.ptr ox 0,.nils]],S5.tips⟩ (.ptr ox 0) ls:=hix.more ((aL.refl S5).obj _)
   have:=i1.set (i:=S.objs.length) (x:=[.ptr xb 0]) (y:=[.nilp]) h5x' (fun sv om h=>by simp at h) (fun kv h=>by
    cases kv with
    |nil=>simp[cR]at h
    |cons e kv=>simp[cR]at h)
   rw[hB];exact this
  have hoxb:ox≠xb:=by
   obtain⟨ox',om,n0,sv,qs,kv,k1,k2,k3,_⟩:=hix.at_;cases k1;have:=(aM.1 k3).1;omega
  have hlnv:=aAE hBi;refine bw (bO tieOk2 rfl ?_);simp -implicitDefEqProofs [aZ,zr,hlnv]
  refine pM (Dx (aA0 (S:=S) (xb:=xb) (r:=r) (N:=ls.length) (bv:=bv) (b:=c) (ls:=ls) z2 (by omega) hlsl ls.length 0 a [] B _ B (by omega) rfl
   ⟨hgB,⟨hr.symm,by omega,by omega⟩,hBx,hBe,hBr,ox,.nils,[],hBb,hoxb,hBi,lG 1 (aL.refl B),rfl,fun i h=>by simp at h⟩ ⟨by simp,by simp,by simp,by simp⟩ (by simp) (by simp) ?_ ?_))
  rotate_left
  ·intro m fr' S6 hs hp e2 e3;rw[hs]at hoo;exact hP m fr' S6 hoo hp e2 e3
  intro pss a' B' fr' S6 hs hO hF hpl;rw[hs]at hoo;simp only at hoo;obtain⟨f2,f3,f4,f61⟩:=hF;obtain⟨hbase,⟨_,hr2,hr3⟩,hx6,he6,hr6,ox6,pv,es,hbx6,hox6,hix6,hA6,hel6,hes6⟩:=hO;have hgB6:=hA6.grows;have x6:=hgB6.get hx6;have e6:=hgB6.get he6;have r6:=hgB6.get hr6;have b6:=hgB6.get hbx6;have hg6:=hbase.trans hgB6;obtain⟨hp65,_⟩:=Rf hs (fun q hq=>by simp at hq)
  have hpsv:wO pv pss:=⟨es,hA6.isSl (fun e he=>by
   obtain⟨i,hi,rfl⟩:=dz he;obtain⟨qs,hq,_⟩:=hes6 i (by omega) hi;rw[hq.one.2];rfl),hel6,hes6⟩
  have hblk:jl S6 xb ls pss:=⟨ox6,pv,b6,hix6.more hgB6,hpsv⟩;have hp120:=hpsv.le;have hcnt:=aA3 (fun ps hps=>⟨hp65 ps hps,hp120 ps hps⟩) (by omega);have hcv6:=aAM hblk (by omega) (fun ps hps=>by have:=hp65 ps hps;omega) (by omega);have hixk:=mh hnz
  have hsh6:=aAS hblk hpl (by omega) (fun l hl=>⟨by have:=hixk.set l hl;omega,fun y hy=>by have:=(hixk.word l hl y hy).1;unfold maxLen;omega⟩)
   (fun ps hps=>by have:=hp65 ps hps;omega) (fun ps hps=>by have:=aAP (low:=0) (high:=1099511627776) (hp120 ps hps);have:=hp65 ps hps;omega) z2 r6
  have hcln:=z2.len;rw[bh]at hcln;have hop6:qN S S6:=⟨hg6,⟨_,x6⟩,e6⟩;simp only[if_true];refine bw (dC (dB tieOk2 ?_));unfold Gj;refine cw rfl ?_;rw[←hcl]at hoo;by_cases d1:a'=c.length
  rotate_left
  ·have hd1:((a':Int)==(c.length:Int))=false:=by rw[beq_eq_false_iff_ne];omega
   rw[if_neg (fun h=>d1 h.1)]at hoo;generalize c.length=cl at hcln hd1;simp -implicitDefEqProofs [aZ,f4,bI r6,bD,hcln,hd1];exact kM (ok:=false) r6 (by simp[f4]) (by simp) (fun _=>hP _ _ _ hoo hop6 (by simp[cj,f2]) (by simp[cj,f3])) (fun h=>by cases h)
  have hd1:((a':Int)==(c.length:Int))=true:=by rw[beq_iff_eq];omega
  by_cases d2:fa pss≤65536
  rotate_left
  ·have hd2:¬((fa pss:Int)≤65536):=by omega
   rw[if_neg (fun h=>d2 h.2.1)]at hoo;generalize c.length=cl at hcln hd1;generalize fa pss=ct at hcv6 hd2 d2;simp -implicitDefEqProofs [aZ,f2,f4,bI r6,bI x6,bD,hcln,hd1,hcv6,hd2,d2];exact kM (ok:=false) r6 (by simp[f4]) (by simp) (fun _=>hP _ _ _ hoo hop6 (by simp[cj,f2]) (by simp[cj,f3])) (fun h=>by cases h)
  have hd2:((fa pss:Int)≤65536):=by omega
  cases d3:kL (cG ls pss) c with
  |false=>
   rw[if_neg (fun h=>by rw[d3]at h;cases h.2.2)]at hoo;rw[d3]at hsh6;generalize c.length=cl at hcln hd1;generalize fa pss=ct at hcv6 hd2 d2;simp -implicitDefEqProofs [aZ,f2,f4,bI r6,bI x6,bD,hcln,hd1,hcv6,hd2,d2,hsh6]
   exact kM (ok:=false) r6 (by simp[f4]) (by simp) (fun _=>hP _ _ _ hoo hop6 (by simp[cj,f2]) (by simp[cj,f3])) (fun h=>by cases h)
  |true=>
   rw[if_pos ⟨d1,d2,d3⟩]at hoo;rw[d3]at hsh6;generalize c.length=cl at hcln hd1;generalize fa pss=ct at hcv6 hd2 d2;simp -implicitDefEqProofs [aZ,f2,f4,bI r6,bI x6,bD,hcln,hd1,hcv6,hd2,d2,hsh6];refine kM (ok:=true) r6 (by simp[f4]) (by simp) (fun h=>by cases h) (fun _=>?_);simp only
   have hs1:S6.objs.set S.objs.length [.ptr xb 0]=S6.objs:=by
    apply iV;intro i;rw[lM];split
    ·rename_i e;subst e;rw[x6];simp;exact(aM.1 x6).1
    ·rfl
   have hs2:S6.objs.set (S.objs.length+1) [.int .i64 0]=S6.objs:=by
    apply iV;intro i;rw[lM];split
    ·rename_i e;subst e;rw[e6];simp;exact(aM.1 e6).1
    ·rfl
   refine pO tieOk2 rfl ?_;simp -implicitDefEqProofs [aZ,zt,f2,f3,bI x6,bD,aG,x6,e6,ak,hs1,hs2];exact hR ls pss xb _ S6 hoo hg6 hblk x6 e6 (by omega) (by simp[f2]) (by simp[f3])
 refine main _ ?_ ?_
 ·intro m fr3 S3 hn hop f2 f3;obtain⟨S4,vs,k1,k2,k3⟩:=aAY (m:=m) hop f2 f3;refine⟨S4,vs,k1,k2,?_⟩;have e:Rs.ret (aW false S S4 (bb vs)).1 (aW false S S4 (bb vs)).2=.ret (.tup [.nilp,.int .i64 5]) S:=by rw[k3]
  simp only[hn];exact e
 ·intro ls pss xb fr3 S3 ho hg hblk hx he hle f2 f3;refine⟨S3,[.ptr xb 0,.int .i64 0],aAV (fr3:=fr3) (by rw[hx];simp),by simp[oI,cF,gu,f2,f3,hx,he,bD],?_⟩;obtain⟨ix,pv,h1,h2,h3⟩:=hblk.at_
  have hfin:aW false S S3 (.tup [.ptr xb 0,.int .i64 0])=(.tup [.ptr xb 0,.int .i64 0],S3):=by
   obtain⟨ox,om,n0,sv,qs,kv,i1,i2,i3,i4,i5,i6⟩:=h2.at_;cases i1
   have hs:ai S3.objs S.objs.length eU (.tup [.ptr xb 0,.int .i64 0])=none:=by
    show ai S3.objs S.objs.length (39+1) _=none;unfold ai
    have hp:ai S3.objs S.objs.length 39 (.ptr xb 0)=none:=by
     show ai S3.objs S.objs.length (38+1) _=none;unfold ai
     have hq:ai S3.objs S.objs.length 38 (.ptr ix 0)=none:=by
      show ai S3.objs S.objs.length (37+1) _=none;unfold ai
      have hm:cc (ai S3.objs S.objs.length 37) [sv,.map om]=none:=by
       simp only[cc,yS];cases ai S3.objs S.objs.length 37 sv<;>rfl
      simp[PV.free,i3,hm]
     have hm:cc (ai S3.objs S.objs.length 38) [.ptr ix 0,pv]=none:=by
      simp only[cc,hq]
     simp[PV.free,h1,hm,show ¬xb<S.objs.length by omega]
    simp[PV.free,PV.freeL,cc,hp]
   simp only[aW,cH,if_false,hs]
  simp only[bb,oI,hfin,ho];exact⟨xb,S3,rfl,hg,hblk⟩
end Ps
