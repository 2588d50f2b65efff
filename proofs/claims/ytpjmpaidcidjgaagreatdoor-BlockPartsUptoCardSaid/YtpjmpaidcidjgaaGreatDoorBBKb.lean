/- Which label set is ahead; numbers and texts laid down and read (out of the label seats texts). -/
import Derived.Test.YtpjmpaidcidjgaaGreatDoorDefsKb
import Derived.Test.YtpjmpaidcidjgaaGreatDoorCXKb
import Derived.Test.YtpjmpaidcidjgaaGreatDoorSimVKb
import Derived.Test.YtpjmpaidcidjgaaGreatDoorRowKb
set_option linter.defProp false
namespace Ps
set_option linter.unusedSimpArgs false
set_option linter.unusedVariables false
open Go
def VS:T.fn 121=some (.code z57):=rfl
def ki(c:UInt8):Bool:=(97≤c.toNat&&c.toNat≤122)||(65≤c.toNat&&c.toNat≤90)||c.toNat==95
def lQ(c:UInt8):Bool:=48≤c.toNat&&c.toNat≤57
def yG(l:List UInt8):Bool:=l.all fun c=>ki c||lQ c
def mZ:List UInt8→Bool
 | []=>false
 |c::l=>ki c&&yG l&&decide (l.length+1≤32)
def jX(first:Bool):List UInt8→Bool
 | []=>true
 |c::l=>(ki c||(!first&&lQ c))&&jX false l
theorem El:∀l,jX false l=yG l
 | []=>rfl
 |c::l=>by simp[jX,yG,El l]
def Em(s:List UInt8):mZ s=(jX true s&&(!(s==[])&&decide (s.length≤32))):=by
 cases s with
 |nil=>rfl
 |cons c l=>simp[mZ,jX,El,EK]
def VT{s:List UInt8}(hs:s.length≤maxLen){K:List Kt}{S:St}{Q:Fr→St→Prop}:∀(rest pre:List UInt8),s=pre++rest→∀(fr:Fr),
  fr 0=.str s→fr 6=.int .i64 s.length→fr 7=.int .i64 pre.length →
  (jX pre.isEmpty rest=true→∀fr',fr' 0=.str s→Ok (aE T K fr' S) Q)→(jX pre.isEmpty rest=false→∀fr',fr' 2=.bool false→Q fr' S) →
  Ok (aE T (.lp wC::.blk 0::K) fr S) Q:=by
 intro rest
 induction rest with
 |nil=>
  intro pre hp fr h0 h6 h7 k1 k2;rw[eP]at hp;subst hp;rw[ax];simp[h0,h6,h7]
  exact k1 rfl _ (by simp[h0])
 |cons c rest ih=>
  intro pre hp fr h0 h6 h7 k1 k2;have hi:pre.length<s.length:=by rw[hp];simp
  have hc:s[pre.length]=c:=by simp[hp]
  unfold maxLen at hs;have hw:=pQ (a:=pre.length) (by omega);have hn:(!pre.isEmpty)=decide (0<pre.length):=by cases pre<;>simp
  have he:(pre++[c]).isEmpty=false:=by simp
  have hL:∀fr',fr' 0=.str s→fr' 6=.int .i64 s.length→fr' 7=.int .i64 ((pre.length+1:Nat):Int)→(ki c||(decide (0<pre.length)&&lQ c))=true→Ok (aE T (.lp wC::.blk 0::K) fr' S) Q:=by
   intro fr' g0 g6 g7 gl;refine ih (pre++[c]) (by simp[hp]) fr' g0 g6 (by simpa using g7) (fun h=>k1 ?_) (fun h=>k2 ?_)
   ·rw[he]at h;simp only[jX,hn,gl,h,Bool.and_self]
   ·rw[he]at h;simp only[jX,h,Bool.and_false]
  have hR:∀fr',fr' 2=.bool false→(ki c||(decide (0<pre.length)&&lQ c))=false→Q fr' S:=fun fr' g2 gl=>k2 (by simp only[jX,hn,gl,Bool.false_and]) fr' g2;clear k1 k2;rw[ax];simp -implicitDefEqProofs [h0,h6,h7,hi,hc]
  refine cA (fun a1=>cA (fun _=>hL _ (by simp[h0]) (by simp[h6]) (by simp[hw]) ?_) (fun a2=>absurd a1 (by simp[a2]))) (fun a1=>cA (fun a2=>cA (fun _=>hL _ (by simp[h0]) (by simp[h6]) (by simp[hw]) ?_) (fun a3=>absurd a2 (by simp[a3])))
   (fun a2=>cA (fun a3=>hL _ (by simp[h0]) (by simp[h6]) (by simp[hw]) ?_) (fun a3=>cA (fun a4=>hL _ (by simp[h0]) (by simp[h6]) (by simp[hw]) ?_) (fun a4=>iD (hR _ (by simp) ?_)))))
  ·simp[ki,lQ]at a1 ⊢;omega
  ·simp[ki,lQ]at a2 ⊢;omega
  ·simp[ki,lQ]at a3 ⊢;omega
  ·simp[ki,lQ]at a4 ⊢;omega
  ·simp[ki,lQ]at a1 a2 a3 a4 ⊢;omega
def VU{s:List UInt8}(hs:s.length≤maxLen):aN T 121 [.str s] cS=some (.bool (mZ s),cS):=by
 refine bZ VS rfl ?_;simp[z57];refine VT hs s [] rfl _ (by simp) (by simp) (by simp) (fun h fr' g0=>?_) (fun h fr' g2=>?_)
 ·simp[g0,Em,show jX true s=true from h]
  congr 1;exact decide_eq_decide.2 (by omega)
 ·simp[g2,Em,show jX true s=false from h]
def VV{s:List UInt8}(hs:s.length≤maxLen):fc T 121 [.str s]=some (.bool (mZ s)):=we (VU hs) rfl rfl
def VW:T.fn 40=some (.code sY):=rfl
abbrev aQ:=List UInt8×List UInt8×Unit
def bH(x:aQ):PV:=.agg [.str x.1,.str x.2.1]
@[simp]def rV(x:aQ):(bH x).cells=[.str x.1,.str x.2.1]:=rfl
def gV(l:List aQ)(i:Nat)(h:i<l.length):Nat:=
 if mZ l[i].1=false then 8 else if l[i].2.1.isEmpty then 2 else if 64<l[i].2.1.length then 3 else
 if h0:0<i then(if(Op.bytesLess l[i].1 l[i-1].1||l[i].1==l[i-1].1)=true then 13 else 0)else 0
def jY(l:List aQ)(i:Nat):Nat:=
 if h:i<l.length then(if gV l i h=0 then jY l (i+1)else gV l i h)else 0
termination_by l.length-i
def iJ(l:List aQ):Nat:=if 8<l.length then 3 else jY l 0
def VX{l:List aQ}{v:PV}(hv:cM 2 v (l.map bH))(hn:∀x∈l,x.1.length≤maxLen)(hl:l.length≤maxLen){K:List Kt}{Q:Fr→St→Prop}{S0:St}:∀(n i:Nat),l.length-i=n→i≤l.length→∀(fr:Fr) (S:St),
  fr 0=v→fr 8=v→fr 9=.int .i64 l.length→fr 10=.int .i64 i→aL S0 S→(jY l i=0→∀fr' S',aL S0 S'→Ok (aE T K fr' S') Q) →
  (jY l i≠0→∀fr' S',aL S0 S'→fr' 2=.int .i64 (jY l i)→Q fr' S')→Ok (aE T (.lp vu::.blk 0::K) fr S) Q:=by
 intro n
 induction n with
 |zero=>
  intro i hni hil fr S h0 h8 h9 h10 hg k1 k2;have hi:i=l.length:=by omega
  have hc:jY l i=0:=by rw[jY,dif_neg (by omega)]
  rw[ax];simp -implicitDefEqProofs [h0,h8,h9,h10,hi]
  exact k1 hc _ _ hg
 |succ n ih=>
  intro i hni hil fr S h0 h8 h9 h10 hg k1 k2;have hi:i<l.length:=by omega
  have hget:=hv.get i (by simpa using hi) .i64;have hx:(l.map bH)[i]'(by simpa using hi)=bH l[i]:=by simp
  rw[hx,rV]at hget;have hpv:=VV (hn l[i] (List.getElem_mem hi));unfold maxLen at hl;have hw:=pQ (a:=i) (by omega);have hpo:∀{a b:PV},bG true 2 [a,b]=some (.agg [a,b]):=fun {a b}=>rfl;have hp1:∀{a:PV} {m:List PV},bG false 1 (a::m)=some a:=fun {a m}=>by simp[bG]
  rw[jY,dif_pos hi]at k1 k2
  have hL:gV l i hi=0→∀fr' S',fr' 0=v→fr' 8=v→fr' 9=.int .i64 l.length→fr' 10=.int .i64 ((i+1:Nat):Int)→aL S0 S'→Ok (aE T (.lp vu::.blk 0::K) fr' S') Q:=by
   intro hz fr' S' g0 g8 g9 g10 gg;rw[if_pos hz]at k1 k2;exact ih (i+1) (by omega) (by omega) fr' S' g0 g8 g9 g10 gg k1 k2
  have hR:∀(e:Nat),e≠0→gV l i hi=e→∀fr' S',fr' 2=.int .i64 e→aL S0 S'→Q fr' S':=by
   intro e he hz fr' S' g2 gg;rw[if_neg (by rw[hz];exact he),hz]at k2;exact k2 he fr' S' gg g2
  clear k1 k2 ih;by_cases hi0:0<i
  ·have hgetp:=hv.get (i-1) (by simp;omega) .i64;have hxp:(l.map bH)[i-1]'(by simp;omega)=bH l[i-1]:=by simp
   rw[hxp,rV]at hgetp;have hsub:IntKind.i64.wrap ((i:Int)-1)=((i-1:Nat):Int):=by rw[au]<;>omega
   rw[ax];simp -implicitDefEqProofs [h0,h8,h9,h10,hi,hget,hpo,hp1,hpv,hi0,hgetp,hsub,aG,ak]
   refine cA (fun a1=>iD (hR 8 (by decide) ?_ _ _ (by simp) (hg.obj _))) (fun a1=>cA (fun a2=>iD (hR 2 (by decide) ?_ _ _ (by simp) (hg.obj _))) (fun a2=>cA (fun a3=>iD (hR 3 (by decide) ?_ _ _ (by simp) (hg.obj _)))
    (fun a3=>cA (fun a4=>iD (hR 13 (by decide) ?_ _ _ (by simp) (hg.obj _))) (fun a4=>hL ?_ _ _ (by simp[h0]) (by simp[h8]) (by simp[h9]) (by simp[hw]) (hg.obj _)))))
   ·rw[gV,if_pos (by simpa using a1)]
   ·rw[gV,if_neg (by simpa using a1),if_pos a2]
   ·rw[gV,if_neg (by simpa using a1),if_neg (by simp[a2]),if_pos (by simp at a3;omega)]
   ·rw[gV,if_neg (by simpa using a1),if_neg (by simp[a2]),if_neg (by simp at a3;omega),dif_pos hi0,if_pos a4]
   ·rw[gV,if_neg (by simpa using a1),if_neg (by simp[a2]),if_neg (by simp at a3;omega),dif_pos hi0,if_neg (by simp only[a4];decide)]
  ·rw[ax];simp -implicitDefEqProofs [h0,h8,h9,h10,hi,hget,hpo,hp1,hpv,hi0,aG,ak]
   refine cA (fun a1=>iD (hR 8 (by decide) ?_ _ _ (by simp) (hg.obj _))) (fun a1=>cA (fun a2=>iD (hR 2 (by decide) ?_ _ _ (by simp) (hg.obj _))) (fun a2=>cA (fun a3=>iD (hR 3 (by decide) ?_ _ _ (by simp) (hg.obj _)))
    (fun a3=>hL ?_ _ _ (by simp[h0]) (by simp[h8]) (by simp[h9]) (by simp[hw]) (hg.obj _))))
   ·rw[gV,if_pos (by simpa using a1)]
   ·rw[gV,if_neg (by simpa using a1),if_pos a2]
   ·rw[gV,if_neg (by simpa using a1),if_neg (by simp[a2]),if_pos (by simp at a3;omega)]
   ·rw[gV,if_neg (by simpa using a1),if_neg (by simp[a2]),if_neg (by simp at a3;omega),dif_neg hi0]
def VY{l:List aQ}{v:PV}(hv:cM 2 v (l.map bH))(hn:∀x∈l,x.1.length≤maxLen)(hl:l.length≤maxLen)(S:St):aN T 40 [v] S=some (.int .i64 (iJ l),S):=by
 refine bZ VW rfl ?_;simp -implicitDefEqProofs [sY,hv.len];refine cA (fun a=>?_) (fun a=>?_)
 ·have h:iJ l=3:=by rw[iJ,if_pos (by simp at a;omega)]
  simp[h]
 ·have h:iJ l=jY l 0:=by rw[iJ,if_neg (by simp at a;omega)]
  refine VX hv hn hl l.length 0 (by omega) (by omega) _ S (by simp) (by simp) (by simp) (by simp) (aL.refl S) (fun hz fr' S' gg=>?_) (fun hz fr' S' gg g2=>?_)
  ·simp[gg,h,hz]
  ·simp[gg,g2,h]
abbrev ma:Ty:=.st (.pair .str (.pair .str .unit))
def rW(x:(Ty.sl ma).den):List aQ:=match x with|none=>[]|some q=>q.1
def VZ{x:(Ty.sl ma).den}(h:(Ty.sl ma).wf x):(rW x).length≤maxLen∧∀y∈rW x,y.1.length≤maxLen∧y.2.1.length≤maxLen:=by
 cases x with
 |none=>exact⟨cP _,fun y hy=>by simp[rW]at hy⟩
 |some q=>
  obtain⟨es,sp⟩:=q;exact⟨Nat.le_trans (Nat.le_add_right _ _) h.1,fun y hy=>⟨(h.2.1 y hy).1,(h.2.1 y hy).2.1⟩⟩
def Va:T.fn 102=some (.code z28):=rfl
def Vb:T.fn 216=some (.code sn):=rfl
def Vc:T.fn 26=some (.code sQ):=rfl
def eR(a b:List UInt8):Int:=if Op.bytesLess a b then -1 else if(Op.bytesLess a b||a==b)then 0 else 1
def fk(x y:aQ):Int:=if eR x.1 y.1=0 then eR x.2.1 y.2.1 else eR x.1 y.1
def jA:List aQ→List aQ→Option Int
 | [],_=>none
 |_::_,[]=>some 1
 |x::a,y::b=>if fk x y=0 then jA a b else some (fk x y)
def dp(a b:List aQ):Int:=match jA a b with|some c=>c|none=>if a.length<b.length then -1 else 0
def Vd(a b:List UInt8):fc T 216 [.str a,.str b]=some (.int .i64 (eR a b)):=by
 refine we ?_ rfl rfl;refine bZ Vb rfl ?_;simp -implicitDefEqProofs [sn];refine cA (fun h=>?_) (fun h=>cA (fun h2=>?_) (fun h2=>?_))
 ·simp[eR,h]
 ·simp[eR,h]at h2 ⊢;simp[h2]
 ·simp[eR,h]at h2 ⊢;simp[h2]
def uZ{l p r:List aQ}{x:aQ}{v:PV}(hv:cM 2 v (l.map bH))(hl:l=p++x::r):ca 2 v (.int .i64 (p.length:Int))=some (.ref [.str x.1,.str x.2.1]):=by
 have h:p.length<(l.map bH).length:=by rw[hl];simp
 have:=hv.get p.length h .i64;have e:(l.map bH)[p.length]=bH x:=by simp[hl]
 rw[e,rV]at this;exact this
def jB:List aQ→List aQ→Option Int
 |x::a,y::b=>if fk x y=0 then jB a b else some (fk x y)
 |_,_=>none
theorem En:∀a b:List aQ,dp a b=match jB a b with|some c=>c|none=>if a.length<b.length then -1 else if b.length<a.length then 1 else 0
 | [],[]=>rfl
 | [],y::b=>by simp[dp,jA,jB]
 |x::a,[]=>by simp[dp,jA,jB]
 |x::a,y::b=>by
  have ih:=En a b;simp only[dp,jA,jB]at ih ⊢;by_cases h:fk x y=0
  ·simp only[h,if_true,bL,Nat.add_lt_add_iff_right];exact ih
  ·simp[h]
def Ve{l1 l2:List aQ}{v1 v2:PV}(hv1:cM 2 v1 (l1.map bH))(hv2:cM 2 v2 (l2.map bH))(hl1:l1.length≤maxLen){K:List Kt}{Q:Fr→St→Prop}{S:St}:∀(r1 p1 r2 p2:List aQ),l1=p1++r1→l2=p2++r2→p2.length=p1.length→∀(fr:Fr),
  fr 0=v1→fr 1=v2→fr 5=.int .i64 p1.length →
  (jB r1 r2=none→∀fr',fr' 0=v1→fr' 1=v2→Ok (aE T K fr' S) Q)→(∀c,jB r1 r2=some c→∀fr',fr' 4=.int .i64 c→Q fr' S) →
  Ok (aE T (.lp BZ::.blk 0::K) fr S) Q:=by
 intro r1
 induction r1 with
 |nil=>
  intro p1 r2 p2 e1 e2 ep fr h0 h1 h5 k1 k2;rw[eP]at e1;subst e1;have hl:=hv1.len;have hl2:=hv2.len;rw[bz]at hl hl2;rw[ax];simp -implicitDefEqProofs [h0,h1,h5,hl]
  exact k1 (by simp[jB]) _ (by simp[h0]) (by simp[h1])
 |cons x r1 ih=>
  intro p1 r2 p2 e1 e2 ep fr h0 h1 h5 k1 k2;have hlt:p1.length<l1.length:=by rw[e1];simp
  have g1:=uZ hv1 e1;unfold maxLen at hl1;have hw:=pQ (a:=p1.length) (by omega);have hp1:∀{a:PV} {m:List PV},bG false 1 (a::m)=some a:=fun {a m}=>by simp[bG]
  have hl:=hv1.len;have hl2:=hv2.len;rw[bz]at hl hl2
  cases r2 with
  |nil=>
   have e2':l2.length=p1.length:=by rw[e2];simp[ep]
   rw[ax];simp -implicitDefEqProofs [h0,h1,h5,hlt,hl,hl2,e2']
   exact k1 (by simp[jB]) _ (by simp[h0]) (by simp[h1])
  |cons y r2=>
   have hlt2:p1.length<l2.length:=by rw[e2];simp[ep]
   have g2:=uZ hv2 e2;rw[ep]at g2;rw[ax];simp -implicitDefEqProofs [h0,h1,h5,hlt,g1,hp1,hl,hl2,hlt2,g2,Vd];refine cA (fun a=>?_) (fun a=>cA (fun b=>?_) (fun b=>?_))
   ·have a':eR x.1 y.1≠0:=by simpa using a
    exact iD (k2 (eR x.1 y.1) (by simp[jB,fk,a']) _ (by simp))
   ·have a':eR x.1 y.1=0:=by simpa using a
    have b':eR x.2.1 y.2.1≠0:=by simpa using b
    exact iD (k2 (eR x.2.1 y.2.1) (by simp[jB,fk,a',b']) _ (by simp))
   ·have a':eR x.1 y.1=0:=by simpa using a
    have b':eR x.2.1 y.2.1=0:=by simpa using b
    have c':fk x y=0:=by simp[fk,a',b']
    refine ih (p1++[x]) r2 (p2++[y]) (by simp[e1]) (by simp[e2]) (by simp[ep]) _ (by simp[h0]) (by simp[h1]) (by simp[hw]) (fun hz=>k1 ?_) (fun c hz=>k2 c ?_)
    ·simpa[jB,c']using hz
    ·simpa[jB,c']using hz
def Vf{l1 l2:List aQ}{v1 v2:PV}(hv1:cM 2 v1 (l1.map bH))(hv2:cM 2 v2 (l2.map bH))(hl1:l1.length≤maxLen)(S:St):aN T 102 [v1,v2] S=some (.int .i64 (dp l1 l2),S):=by
 refine bZ Va rfl ?_;simp -implicitDefEqProofs [z28];have e:=En l1 l2;refine Ve hv1 hv2 hl1 l1 [] l2 [] rfl rfl rfl _ (by simp) (by simp) (by simp) (fun hz fr' g0 g1=>?_) (fun c hz fr' g4=>?_)
 ·rw[hz]at e;simp -implicitDefEqProofs [g0,g1,hv1.len,hv2.len];refine cA (fun a=>?_) (fun a=>cA (fun b=>?_) (fun b=>?_))
  ·have:dp l1 l2 = -1:=by rw[e];simp at a;simp;omega
   simp[this]
  ·have:dp l1 l2=1:=by rw[e];simp at a b;simp;omega
   simp[this]
  ·have:dp l1 l2=0:=by rw[e];simp at a b;simp;omega
   simp[this]
 ·rw[hz]at e;simp[g4,e]
def Vg{l1 l2:List aQ}{v1 v2:PV}(hv1:cM 2 v1 (l1.map bH))(hv2:cM 2 v2 (l2.map bH))(hl1:l1.length≤maxLen)(S:St):aN T 26 [v1,v2] S=some (.bool (dp l1 l2==0),S):=by
 refine bZ Vc rfl ?_;simp -implicitDefEqProofs [sQ,Vf hv1 hv2 hl1]
def nz{a b:List UInt8}:Op.bytesLess a b=true↔a<b:=by
 induction a generalizing b with
 |nil=>cases b<;>simp[Op.bytesLess]
 |cons x a ih=>cases b with
  |nil=>simp[Op.bytesLess]
  |cons y b=>simp[Op.bytesLess,ih,List.cons_lt_cons_iff]
def Vh(a b:List UInt8):eR b a = - eR a b:=by
 unfold eR;by_cases h:a<b
 ·have h1:¬b<a:=fun k=>xq a (List.lt_trans h k);have h2:¬b=a:=fun k=>by rw[k]at h;exact xq a h
  have e1:Op.bytesLess a b=true:=nz.2 h;have e2:Op.bytesLess b a=false:=by rw[pR];exact fun k=>h1 (nz.1 k)
  simp[e1,e2,h2]
 ·by_cases h1:b<a
  ·have h2:¬a=b:=fun k=>by rw[k]at h1;exact xq b h1
   have e1:Op.bytesLess b a=true:=nz.2 h1;have e2:Op.bytesLess a b=false:=by rw[pR];exact fun k=>h (nz.1 k)
   simp[e1,e2,h2]
  ·have h2:a=b:=List.le_antisymm h1 h;subst h2;have e2:Op.bytesLess a a=false:=by rw[pR];exact fun k=>h (nz.1 k)
   simp[e2]
def yH{a b:List UInt8}:eR a b=0↔a=b:=by
 unfold eR
 cases h:Op.bytesLess a b with
 |true=>
  simp;intro k;subst k
  exact xq a (nz.1 h)
 |false=>
  simp
def Eo{x y:aQ}:fk x y=0↔x=y:=by
 unfold fk;obtain⟨a,b,u⟩:=x;obtain⟨c,d,v⟩:=y;by_cases h:eR a c=0
 ·simp only[h,if_true,yH];have:=yH.1 h;subst this;simp
 ·simp only[h,if_false,false_iff];intro e;exact h (yH.2 (by injection e))
def Vi(x y:aQ)(a b:List aQ):dp (x::a) (y::b)=if fk x y=0 then dp a b else fk x y:=by
 simp only[dp,jA];by_cases h:fk x y=0<;>simp[h]
@[simp]def aH6:dp [] []=0:=rfl
@[simp]def aH7(y:aQ)(b:List aQ):dp [] (y::b) = -1:=by simp[dp,jA]
@[simp]def aH8(x:aQ)(a:List aQ):dp (x::a) []=1:=by simp[dp,jA]
theorem Ep:∀{a b:List aQ},dp a b=0↔a=b
 | [],[]=>by simp
 | [],y::b=>by simp
 |x::a,[]=>by simp
 |x::a,y::b=>by
  rw[Vi];by_cases h:fk x y=0
  ·rw[if_pos h,Ep (a:=a) (b:=b)];have:=Eo.1 h;subst this;simp
  ·simp only[h,if_false,nk];constructor
   ·intro e;exact absurd e (by simp)
   ·intro e;exact absurd (Eo.2 e.1) h
def p1{a:PV}{m:List PV}:bG false 1 (a::m)=some a:=by simp[bG]
def p2{a b:PV}:bG true 2 [a,b]=some (.agg [a,b]):=rfl
@[simp]def Vj(x:aQ):(bH x).free=true:=rfl
@[simp]def Vk(x:aQ):(bH x).frz=bH x:=rfl
@[simp]def aH9(x:aQ):(bH x).cells.all PV.one=true:=rfl
def yI(l:List aQ):PV.freeL (l.map bH)=true:=jp bH Vj l
def ua(l:List aQ):PV.frzL (l.map bH)=l.map bH:=jq bH Vk l
def rX(l:List aQ):∀e∈l.map bH,e.cells.length=2:=by
 intro e he;obtain⟨x,_,rfl⟩:=List.mem_map.1 he;rfl
structure Eq(v:PV)(l:List aQ):Prop where
 isl:ba 2 v (l.map bH)
 free:v.free=true
 frz:v.frz=v
def Eq.reads{v:PV}{l:List aQ}(h:Eq v l):cM 2 v (l.map bH):=h.isl.reads
theorem ub(t:Ty)(h:∀x:t.den,1≤t.bulk x):∀l:List t.den,l.length≤(l.map t.bulk).sum
 | []=>aU _
 |x::l=>by
  have:=ub t h l;have:=h x;simp only[bL,cb,pY];omega
def yJ(x:aQ):Prop:=mZ x.1=true∧x.2.1≠[]∧x.2.1.length≤64
def uc(l:List aQ):Prop:=l.length≤8∧(∀x∈l,yJ x)∧l.Pairwise (fun x y=>x.1<y.1)
def Vl{a b:List UInt8}:(Op.bytesLess b a||b==a)=false↔a<b:=by
 rw[←nz];have h:=Vh a b;unfold eR at h;cases p:Op.bytesLess a b<;>cases q:Op.bytesLess b a<;>simp[p,q]at h ⊢
 ·by_cases e:a=b
  ·simp[e]
  ·have e':¬b=a:=fun k=>e k.symm;simp[e,e']at h
 ·intro e;subst e;rw[p]at q;cases q
def ue{l:List aQ}{i:Nat}(h:i<l.length):gV l i h=0↔yJ l[i]∧(∀h0:0<i,l[i-1].1<l[i].1):=by
 unfold gV yJ
 cases hn:mZ l[i].1 with
 |false=>simp
 |true=>
  by_cases b:l[i].2.1=[]
  ·simp[b]
  ·have b':l[i].2.1.isEmpty=false:=by simpa using b
   by_cases c:64<l[i].2.1.length
   ·have c':¬l[i].2.1.length≤64:=by omega
    simp[b',c,c']
   ·have c':l[i].2.1.length≤64:=by omega
    rw[if_neg (by simp),b',if_neg (by simp),if_neg c];by_cases d:0<i
    ·rw[dif_pos d];have q:=Vl (a:=l[i-1].1) (b:=l[i].1)
     cases e:(Op.bytesLess l[i].1 l[i-1].1||l[i].1==l[i-1].1)with
     |true=>
      rw[e]at q;simp only[if_true];constructor
      ·intro k;cases k
      ·rintro⟨_,k⟩;have:=q.2 (k d)
       cases this
     |false=>
      rw[e]at q;simp only[cH,if_false,true_iff];exact⟨⟨trivial,b,c'⟩,fun _=>q.1 rfl⟩
    ·rw[dif_neg d];simp only[true_iff];exact⟨⟨trivial,b,c'⟩,fun h0=>absurd h0 d⟩
def Vm{l:List aQ}:∀(n i:Nat),l.length-i=n→(jY l i=0↔∀j (h:j<l.length),i≤j→gV l j h=0):=by
 intro n
 induction n with
 |zero=>
  intro i hi;rw[jY,dif_neg (by omega)]
  exact⟨fun _ j h hj=>by omega,fun _=>rfl⟩
 |succ n ih=>
  intro i hi;rw[jY,dif_pos (by omega)];by_cases h0:gV l i (by omega)=0
  ·rw[if_pos h0,ih (i+1) (by omega)];constructor
   ·intro k j h hj;by_cases e:j=i
    ·subst e;exact h0
    ·exact k j h (by omega)
   ·intro k j h hj;exact k j h (by omega)
  ·rw[if_neg h0];exact⟨fun e=>absurd e h0,fun k=>absurd (k i (by omega) (aU _)) h0⟩
def Vn{l:List aQ}:iJ l=0↔uc l:=by
 unfold iJ uc;by_cases h8:8<l.length
 ·simp[h8];omega
 ·rw[if_neg h8,Vm l.length 0 rfl];have h8':l.length≤8:=by omega
  simp only[h8',true_and];constructor
  ·intro k;refine⟨fun x hx=>?_,?_⟩
   ·obtain⟨i,hi,rfl⟩:=dz hx;exact((ue hi).1 (k i hi (cP _))).1
   ·rw[Eb]
    have adj:∀d i j (hi:i<l.length) (hj:j<l.length),j=i+d+1→l[i].1<l[j].1:=by
     intro d
     induction d with
     |zero=>
      intro i j hi hj e;subst e
      exact((ue hj).1 (k _ hj (cP _))).2 (by omega)
     |succ d ih=>
      intro i j hi hj e;have h1:=ih i (j-1) hi (by omega) (by omega);have h2:=((ue hj).1 (k _ hj (cP _))).2 (by omega);exact List.lt_trans h1 h2
    intro i j hi hj hij;exact adj (j-i-1) i j hi hj (by omega)
  ·rintro⟨k1,k2⟩ j h _;rw[ue h];rw[Eb]at k2;exact⟨k1 _ (List.getElem_mem h),fun h0=>k2 (j-1) j (by omega) h (by omega)⟩
end Ps
set_option linter.defProp false
namespace Ps
set_option linter.unusedSimpArgs false
set_option linter.unusedVariables false
open Go
def Vo:T.fn 28=some (.code z24):=rfl
def Vp:T.fn 103=some (.code z0):=rfl
def Vq:T.fn 104=some (.code si):=rfl
def Vr:T.fn 105=some (.code sj):=rfl
def Vs:T.fn 106=some (.code z6):=rfl
def Vt:T.fn 217=some (.code su):=rfl
def Vu(s:List UInt8):fc T 217 [.str s]=some (.bool false):=by
 refine we ?_ rfl rfl;refine bZ Vt rfl ?_;simp -implicitDefEqProofs [su]
def Vw(a b:List UInt8):fc T 106 [.str a,.str b]=some (.int .i64 (eR a b)):=by
 refine we ?_ rfl rfl;refine bZ Vs rfl ?_;simp -implicitDefEqProofs [z6,Vu];refine cA (fun h=>?_) (fun h=>cA (fun h2=>?_) (fun h2=>?_))
 ·simp[eR,h]
 ·simp[eR,h]at h2 ⊢;simp[h2]
 ·simp[eR,h]at h2 ⊢;simp[h2]
def Vx(a b:Int)(tip:Option (Nat×Nat))(S:St):aN T 105 [.sl tip [.int .i64 a,.int .i64 b] []] S=some (.int .i64 (if a=0 then b else a),S):=by
 refine bZ Vr rfl ?_;have w1:IntKind.i64.wrap 1=1:=by decide
 have w2:IntKind.i64.wrap 2=2:=by decide
 have hp1:∀{a:PV} {m:List PV},bG false 1 (a::m)=some a:=fun {a m}=>by simp[bG]
 simp -implicitDefEqProofs [sj];rw[ax];simp -implicitDefEqProofs [hp1,w1];refine cA (fun h=>?_) (fun h=>?_)
 ·simp at h;simp[h]
 ·simp at h;rw[ax];simp -implicitDefEqProofs [hp1,w1,w2];refine cA (fun h2=>?_) (fun h2=>?_)
  ·simp at h2;simp[h]
  ·simp at h2;rw[ax];simp -implicitDefEqProofs [h,h2]
def Vy(x y:aQ)(S:St):aN T 104 [bH x,bH y] S=some (.int .i64 (fk x y),S):=by
 refine bZ Vq rfl ?_;have hp1:∀{a:PV} {m:List PV},bG false 1 (a::m)=some a:=fun {a m}=>by simp[bG]
 simp -implicitDefEqProofs [si,aG,bH,hp1,Vw,cY,dU,Vx];rw[Sj ((aL.refl S).arr _)];simp[fk]
def Vz{l1 l2:List aQ}{v1 v2:PV}(hv1:cM 2 v1 (l1.map bH))(hv2:cM 2 v2 (l2.map bH))(hl1:l1.length≤maxLen){K:List Kt}{Q:Fr→St→Prop}{S0:St}:∀(r1 p1 r2 p2:List aQ),l1=p1++r1→l2=p2++r2→p2.length=p1.length→∀(fr:Fr) (S:St),
  fr 0=v1→fr 1=v2→fr 2=.fn 104 []→fr 11=v1→fr 12=.int .i64 l1.length→fr 13=.int .i64 p1.length→aL S0 S →
  (jA r1 r2=none→∀fr' S',fr' 0=v1→fr' 1=v2→aL S0 S'→Ok (aE T K fr' S') Q)→(∀c,jA r1 r2=some c→∀fr' S',fr' 6=.int .i64 c→aL S0 S'→Q fr' S') →
  Ok (aE T (.lp Bn::.blk 0::K) fr S) Q:=by
 intro r1
 induction r1 with
 |nil=>
  intro p1 r2 p2 e1 e2 ep fr S h0 h1 h2 h11 h12 h13 hg k1 k2;rw[eP]at e1;subst e1;rw[ax];simp -implicitDefEqProofs [h0,h1,h11,h12,h13]
  exact k1 rfl _ _ (by simp[h0]) (by simp[h1]) hg
 |cons x r1 ih=>
  intro p1 r2 p2 e1 e2 ep fr S h0 h1 h2 h11 h12 h13 hg k1 k2;have hlt:p1.length<l1.length:=by rw[e1];simp
  have g1:=uZ hv1 e1;unfold maxLen at hl1;have hw:=pQ (a:=p1.length) (by omega);have hpo:∀{a b:PV},bG true 2 [a,b]=some (.agg [a,b]):=fun {a b}=>rfl;have hl2:=hv2.len;rw[bz]at hl2
  cases r2 with
  |nil=>
   have e2':l2.length=p1.length:=by rw[e2];simp[ep]
   rw[ax];simp -implicitDefEqProofs [h0,h1,h11,h12,h13,hlt,g1,hpo,aG,ak,hl2,e2']
   exact k2 1 rfl _ _ (by simp) (hg.obj _)
  |cons y r2=>
   have hlt2:p1.length<l2.length:=by rw[e2];simp[ep]
   have g2:=uZ hv2 e2;rw[ep]at g2;have hc:=fun S=>Vy x y S;simp only[bH]at hc;rw[ax];simp -implicitDefEqProofs [h0,h1,h2,h11,h12,h13,hlt,g1,hpo,aG,ak,hl2,hlt2,g2,hc];refine cA (fun a=>absurd a (by simp;omega)) (fun _=>cA (fun a=>?_) (fun a=>?_))
   ·have a':fk x y≠0:=by simpa using a
    exact iD (k2 (fk x y) (by simp[jA,a']) _ _ (by simp) (hg.objs _))
   ·have a':fk x y=0:=by simpa using a
    refine ih (p1++[x]) r2 (p2++[y]) (by simp[e1]) (by simp[e2]) (by simp[ep]) _ _ (by simp[h0]) (by simp[h1]) (by simp[h2]) (by simp[h11]) (by simp[h12]) (by simp[hw]) (hg.objs _) (fun hz=>k1 ?_) (fun c hz=>k2 c ?_)
    ·simpa[jA,a']using hz
    ·simpa[jA,a']using hz
def WA{l1 l2:List aQ}{v1 v2:PV}(hv1:cM 2 v1 (l1.map bH))(hv2:cM 2 v2 (l2.map bH))(hl1:l1.length≤maxLen)(S:St):aN T 103 [v1,v2,.fn 104 []] S=some (.int .i64 (dp l1 l2),S):=by
 refine bZ Vp rfl ?_;simp -implicitDefEqProofs [z0,hv1.len];refine Vz hv1 hv2 hl1 l1 [] l2 [] rfl rfl rfl _ S (by simp) (by simp) (by simp) (by simp) (by simp) (by simp) (aL.refl S) (fun hz fr' S' g0 g1 gg=>?_) (fun c hz fr' S' g6 gg=>?_)
 ·simp -implicitDefEqProofs [g0,g1,hv1.len,hv2.len];refine cA (fun a=>?_) (fun a=>?_)
  ·have:dp l1 l2 = -1:=by simp[dp,hz];simp at a;omega
   simp[gg,this]
  ·have:dp l1 l2=0:=by simp[dp,hz];simp at a;omega
   simp[gg,this]
 ·simp[g6,gg,dp,hz]
def WB{l1 l2:List aQ}{v1 v2:PV}(hv1:cM 2 v1 (l1.map bH))(hv2:cM 2 v2 (l2.map bH))(hl1:l1.length≤maxLen)(S:St):aN T 28 [v1,v2] S=some (.int .i64 (dp l1 l2),S):=by
 refine bZ Vo rfl ?_;simp -implicitDefEqProofs [z24,WA hv1 hv2 hl1]
def WC:T.fn 218=some (.code sZ):=rfl
def WD:T.fn 107=some (.code z29):=rfl
def WE:T.fn 108=some (.code sa):=rfl
def lR(k:IntKind)(a b:Int):Int:=k.wrap (BitVec.ofInt k.bits a ||| BitVec.ofInt k.bits b).toNat
def lS(k:IntKind)(a b:Int):Int:=k.wrap (BitVec.ofInt k.bits a &&& BitVec.ofInt k.bits b).toNat
@[simp]def aIa{k:IntKind}{a b:Int}:arith .or (.int k a) (.int k b)=some (.int k (lR k a b)):=by simp[arith,ef,gX,lR]
@[simp]def aIb{k:IntKind}{a b:Int}:arith .and (.int k a) (.int k b)=some (.int k (lS k a b)):=by simp[arith,ef,gX,lS]
def WF{a:Int}:arith .shr (.int .i64 a) (.int .u64 7)=some (.int .i64 (a.fdiv 128)):=rfl
def WG(n:Nat):(n:Int).fdiv 128=((n/128:Nat):Int):=by
 rw[pS _ (by decide)];omega
def mc(n:Nat):IntKind.u8.wrap (n:Int)=((n%256:Nat):Int):=by
 have e:IntKind.u8.wrap (n:Int)=(n:Int)%256:=by
  simp[IntKind.wrap,IntKind.bits,IntKind.signed]
 rw[e];omega
def WH:∀m:Fin 256,lR .u8 ((m.val:Nat):Int) 128=((m.val%128+128:Nat):Int):=by decide +kernel
def WI(n:Nat):lR .u8 (IntKind.u8.wrap (n:Int)) 128=((n%128+128:Nat):Int):=by
 rw[mc];have:=WH ⟨n%256,by omega⟩;simp only at this;rw[this];omega
def aj(n:Nat):List UInt8:=if n<128 then [UInt8.ofNat n]else UInt8.ofNat (n%128+128)::aj (n/128)
termination_by n
decreasing_by omega
def cQ(s:List UInt8):List UInt8:=aj s.length++s
def ph(a b:List UInt8):aI (a++b)=aI a++aI b:=by simp[aI]
def bh(a:List UInt8):(aI a).length=a.length:=by simp[aI]
def md(a:List UInt8):∀e∈aI a,e.cells.length=1:=by
 intro e he;obtain⟨x,_,rfl⟩:=List.mem_map.1 he;rfl
def WJ(a:List UInt8):PV.freeL (aI a)=true:=jp _ (fun _=>rfl) a
def WK(a:List UInt8):PV.frzL (aI a)=aI a:=jq _ (fun _=>rfl) a
def Er{n:Nat}(h:n<256):[PV.int .u8 (n:Int)]=aI [UInt8.ofNat n]:=by
 simp[aI,iy h]
def WM:∀(k n:Nat),n<128^(k+1)→(aj n).length≤k+1:=by
 intro k
 induction k with
 |zero=>intro n h;rw[aj,if_pos (by simpa using h)];simp
 |succ k ih=>
  intro n h;rw[aj];split
  ·simp
  ·have:=ih (n/128) (by rw[nr (by decide)];rw[uW]at h;exact h);simp;omega
def gP{n:Nat}(h:n<9223372036854775808):(aj n).length≤9:=WM 8 n (by omega)
def WN{s:List UInt8}{v:PV}(hv:ba 1 v (aI s)){m:Nat}(hs:s.length+m≤134217728){S0 S:St}(hg:aL S0 S) :
  ∃v' S',aN T 218 [v,.int .i64 (m:Int)] S=some (v',S')∧ah S0 1 S' v' (aI s)∧S'.objs=S.objs:=by
 obtain⟨v',S',a1,a2,a3⟩:=(Cl 1 [] hg).app (bytes:=1) (aI s) (by rw[bh];simp;omega);have hw:IntKind.i64.wrap ((s.length:Int)+(m:Int))=(s.length:Int)+(m:Int):=au (by omega) (by omega);have hlen:=hv.len;rw[bh]at hlen;have h0:(0:Int)≤(s.length:Int)+(m:Int):=by omega
 have h1:(s.length:Int)+(m:Int)≤140737488355328:=by omega
 refine⟨v',S',?_,by simpa using a2,a3⟩;refine bZ WC rfl ?_;simp only[cW]at a1;simp -implicitDefEqProofs [sZ,hlen,hw,aG,h0,h1,hv.appdS,a1,aW]
def WO{s:List UInt8}{S0:St}{K:List Kt}{Q:Fr→St→Prop}:∀(n:Nat) (p:List UInt8),p.length+(aj n).length≤134217728→n<9223372036854775808→∀(fr:Fr) (S:St),
  fr 1=.int .i64 (n:Int)→ah S0 1 S (fr 6) (aI p) →
  (∀fr' S' (m:Nat) q,fr' 1=.int .i64 (m:Int)→m<128→ah S0 1 S' (fr' 6) (aI q)→q++[UInt8.ofNat m]=p++aj n→S'.objs=S.objs→Ok (aE T K fr' S') Q) →
  Ok (aE T (.lp AF::.blk 0::K) fr S) Q:=by
 intro n
 induction n using Nat.strongRecOn with
 |_ n ih=>
  intro p hp hn fr S h1 ha k;rw[ax];by_cases h:n<128
  ·have hlt:¬(128:Int)≤(n:Int):=by omega
   simp -implicitDefEqProofs [h1,hlt];refine k _ _ n p (by simp[h1]) h (by simpa using ha) ?_ rfl;rw[aj,if_pos h]
  ·have hlt:(128:Int)≤(n:Int):=by omega
   have hu:aj n=UInt8.ofNat (n%128+128)::aj (n/128):=by rw[aj,if_neg h]
   have hb:=Er (n:=n%128+128) (by omega);rw[hu]at hp;simp only[bL]at hp;obtain⟨v',S',a1,a2,a3⟩:=(ha.arrs [(1,1)]).app (bytes:=1) [PV.int .u8 ((n%128+128:Nat):Int)] (by rw[bh];simp;omega);have ho:=WI n;have a1':eh 1 1 ⟨S.objs,S.tips++[(1,1)]⟩ (fr 6) [PV.int .u8 (lR .u8 (IntKind.u8.wrap (n:Int)) 128)]=some (v',S'):=by rw[ho];exact a1
   simp -implicitDefEqProofs [h1,hlt,aG,cY,dU,a1',WF,WG];refine ih (n/128) (by omega) (p++[UInt8.ofNat (n%128+128)]) (by simp;omega) (by omega) _ S' (by simp) ?_ (fun fr' S'' m q q1 q2 q3 q4 q5=>k fr' S'' m q q1 q2 q3 ?_ (by rw[q5,a3]))
   ·rw[ph,←hb];simpa using a2
   ·rw[q4,hu];simp
def oA{s:List UInt8}{v:PV}(hv:ba 1 v (aI s)){n:Nat}(hn:n<9223372036854775808)(hs:s.length+20≤134217728){S0 S:St}(hg:aL S0 S) :
  ∃v' S',aN T 107 [v,.int .i64 (n:Int)] S=some (.tup [v',.int .i64 0],S')∧ah S0 1 S' v' (aI (s++aj n))∧S'.objs=S.objs:=by
 obtain⟨v1,S1,e1,e2,e3⟩:=WN hv (m:=9) (by omega) hg;have e1':aN T 218 [v,.int .i64 9] S=some (v1,S1):=e1;have hu:=gP hn;have hlt:¬(n:Int)<0:=by omega
 have key:=qW (T:=T) (f:=107) (c:=z29) WD (args:=[v,.int .i64 (n:Int)]) (S:=S) rfl
  (R:=fun r S2=>∃v',r=.tup [v',.int .i64 0]∧ah S0 1 S2 v' (aI (s++aj n))∧S2.objs=S.objs) ?_
 ·obtain⟨r,S2,h1,v',rfl,h2,h3⟩:=key;exact⟨v',S2,h1,h2,h3⟩
 simp -implicitDefEqProofs [z29,hlt,e1'];refine WO (s:=s) (S0:=S0) n s (by omega) hn _ S1 (by simp) (by simpa using e2) (fun fr' S' m q q1 q2 q3 q4 q5=>?_);have hb:=Er (n:=m) (by omega)
 have hql:q.length+1=s.length+(aj n).length:=by
  have:=congrArg List.length q4;simpa using this
 obtain⟨v',S2,a1,a2,a3⟩:=(q3.arrs [(1,1)]).app (bytes:=1) [PV.int .u8 (m:Int)] (by rw[bh];simp;omega);have hwm:IntKind.u8.wrap (m:Int)=(m:Int):=VE (by omega) (by omega);simp -implicitDefEqProofs [q1,hwm,aG,cY,dU,a1,aW];refine⟨?_,by rw[a3,q5,e3]⟩;rw[←q4,ph,←hb];exact a2
def WP{s t:List UInt8}{v:PV}(hv:ba 1 v (aI s))(ht:t.length≤65535)(hs:s.length+20≤67108864){S0 S:St}(hg:aL S0 S) :
  ∃v' S',aN T 108 [v,.str t] S=some (.tup [v',.int .i64 0],S')∧ah S0 1 S' v' (aI (s++cQ t))∧S'.objs=S.objs:=by
 obtain⟨v1,S1,e1,e2,e3⟩:=oA hv (n:=t.length) (by omega) (by omega) hg;have hu:=gP (n:=t.length) (by omega);have hlt:¬(65535:Int)<(t.length:Int):=by omega
 obtain⟨v2,S2,a1,a2,a3⟩:=e2.app (bytes:=1) (aI t) (by rw[bh,bh,am];omega);refine⟨v2,S2,?_,?_,by rw[a3,e3]⟩
 ·refine bZ WE rfl ?_;simp -implicitDefEqProofs [sa,hlt,e1,a1,aW]
 ·rw[←ph,fi]at a2;exact a2
def yK(s:List UInt8):kG (aI s)=some s:=by
 induction s with
 |nil=>rfl
 |cons b s ih=>
  simp only[aI,cb,kG]at ih ⊢;rw[ih];simp
def kC{v:PV}{s:List UInt8}(h:ba 1 v (aI s)):eX v=some (.str s):=by
 rcases h with⟨rfl,h⟩|⟨tip,sp,rfl,_⟩
 ·cases s with
  |nil=>rfl
  |cons b s=>simp[aI]at h
 ·simp only[eX,yK]
def WQ:T.fn 110=some (.code so):=rfl
def WR:T.fn 111=some (.code z26):=rfl
def fD(at_:Nat):List UInt8→Nat→Nat→Nat×Nat×Nat
 | [],_,_=>(0,0,4)
 |d::r,k,acc=>if(k=8∧127<d.toNat)∨(0<k∧d.toNat=0)then(0,0,5)else if d.toNat<128 then(acc+d.toNat%128*128^k,at_+k+1,0)else fD at_ r (k+1) (acc+d.toNat%128*128^k)
def dJ(s:List UInt8)(i:Int):Nat×Nat×Nat:=if i<0∨(s.length:Int)<i then(0,0,2)else fD i.toNat (s.drop i.toNat) 0 0
def lT(x:Nat×Nat×Nat):PV:=.tup [.int .i64 x.1,.int .i64 x.2.1,.int .i64 x.2.2]
def Es(k:Nat):128^(k+1)=128^k*128:=uW ..
def Et{k:Nat}(h:k≤8):128^k≤72057594037927936:=Nat.le_trans (nv (by decide) h) (by decide)
def Eu{acc d k:Nat}(h:acc<128^k):acc+d%128*128^k<128^(k+1):=by
 have h1:d%128≤127:=by omega
 have h2:d%128*128^k≤127*128^k:=iX _ h1;rw[Es];omega
theorem Ev:∀(r:List UInt8) (at_ k acc:Nat),k≤8→acc<128^k→(fD at_ r k acc).2.2=0→(fD at_ r k acc).2.1≤at_+k+r.length∧(fD at_ r k acc).1<9223372036854775808
 | [],at_,k,acc,_,_,h=>by simp[fD]at h
 |d::r,at_,k,acc,hk,ha,h=>by
  rw[fD]at h ⊢;split at h
  ·simp at h
  ·rename_i hn;rw[if_neg hn];have hs:=Eu (d:=d.toNat) ha;have hp:128^(k+1)≤9223372036854775808:=Nat.le_trans (nv (by decide) (show k+1≤9 by omega)) (by decide);split at h
   ·rename_i hd;rw[if_pos hd];simp only[bL];exact⟨by omega,by omega⟩
   ·rename_i hd;rw[if_neg hd]
    have hk8:k+1≤8:=by
     rcases iw k 8 with h8|h8
     ·omega
     ·exact absurd (.inl ⟨by omega,by omega⟩) hn
    have:=Ev r at_ (k+1) _ hk8 hs h;simp only[bL];exact⟨by omega,this.2⟩
def Ew{s:List UInt8}{i:Int}(h:(dJ s i).2.2=0):(dJ s i).2.1≤s.length∧(dJ s i).1<9223372036854775808:=by
 unfold dJ at h ⊢;split at h
 ·simp at h
 ·rename_i hi;rw[if_neg hi];have:=Ev _ _ 0 0 (by omega) (by decide) h;rw[kd]at this;exact⟨by omega,this.2⟩
def WS:∀m:Fin 256,lS .u8 ((m.val:Nat):Int) 127=((m.val%128:Nat):Int):=by decide +kernel
def WT(d:UInt8):lS .u8 (d.toNat:Int) 127=((d.toNat%128:Nat):Int):=WS ⟨d.toNat,d.toNat_lt⟩
def iY{n:Nat}(h:n<18446744073709551616):IntKind.u64.wrap (n:Int)=(n:Int):=by
 have e:IntKind.u64.wrap (n:Int)=(n:Int)%18446744073709551616:=by
  simp[IntKind.wrap,IntKind.bits,IntKind.signed]
 rw[e];omega
def yL(k:Nat):(128:Nat)^k=2^(7*k):=by
 rw[show(128:Nat)=2^7 from rfl,←Nat.pow_mul]
def WU{a k:Nat}(hk:k≤8)(ha:a<128):arith .shl (.int .u64 (a:Int)) (.int .i64 ((7*k:Nat):Int))=some (.int .u64 ((a*128^k:Nat):Int)):=by
 have h1:¬(((7*k:Nat):Int)<0):=by omega
 have h2:min ((7*k:Nat):Int).toNat IntKind.u64.bits=7*k:=by
  rw[rL];show min (7*k) 64=7*k;omega
 have h3:a*128^k<18446744073709551616:=by
  have:=Et hk;have h4:a*128^k≤127*72057594037927936:=Nat.mul_le_mul (by omega) this;omega
 simp only[arith,ef,if_true,ld,h1,if_false,h2];have e:(a:Int)*2^(7*k)=((a*128^k:Nat):Int):=by rw[yL];simp
 rw[e,iY h3]
def Ey{a b:Nat}(ha:a<18446744073709551616)(hb:b<18446744073709551616):lR .u64 (a:Int) (b:Int)=((a ||| b:Nat):Int):=by
 have hlt:a ||| b<18446744073709551616:=Nat.or_lt_two_pow (n:=64) ha hb
 unfold lR
 have e:(BitVec.ofInt IntKind.u64.bits (a:Int) ||| BitVec.ofInt IntKind.u64.bits (b:Int)).toNat=a ||| b:=by
  rw[BitVec.toNat_or,BitVec.ofInt_natCast,BitVec.ofInt_natCast,BitVec.toNat_ofNat,BitVec.toNat_ofNat];have h1:a%2^IntKind.u64.bits=a:=iy ha;have h2:b%2^IntKind.u64.bits=b:=iy hb;rw[h1,h2]
 rw[e,iY hlt]
def WV{acc x k:Nat}(hk:k≤8)(h:acc<128^k)(hx:x<128):lR .u64 (acc:Int) ((x*128^k:Nat):Int)=((acc+x*128^k:Nat):Int):=by
 have hp:=Et hk;have h4:x*128^k≤127*72057594037927936:=Nat.mul_le_mul (by omega) hp;rw[Ey (by omega) (by omega)]
 congr 1
 rw[Nat.or_comm];have:=Nat.shiftLeft_add_eq_or_of_lt (i:=7*k) (b:=acc) (by rw[←yL];exact h) x;rw[Nat.shiftLeft_eq,←yL]at this;omega
def WW{s p r:List UInt8}{d:UInt8}{v:PV}(hv:cM 1 v (aI s))(hl:s=p++d::r):ca 1 v (.int .i64 (p.length:Int))=some (.ref [.int .u8 d.toNat]):=by
 have h:p.length<(aI s).length:=by rw[bh,hl];simp
 have:=hv.get p.length h .i64;have e:(aI s)[p.length]=.int .u8 d.toNat:=by simp[hl,aI]
 rw[e]at this;exact this
def WX{s:List UInt8}{v:PV}(hv:cM 1 v (aI s)){a:Nat}(ha:a+s.length≤134217728){K:List Kt}{Q:Fr→St→Prop}{S:St}:∀(r p:List UInt8) (acc:Nat),s=p++r→p.length≤8→acc<128^p.length→∀(fr:Fr),
  fr 1=.int .i64 (a:Int)→fr 7=.int .u64 (acc:Int)→fr 20=v→fr 21=.int .i64 s.length→fr 22=.int .i64 p.length →
  (fD a r p.length acc=(0,0,4)→∀fr',Ok (aE T K fr' S) Q) →
  (∀fr',fr' 4=.int .i64 (fD a r p.length acc).1→fr' 5=.int .i64 (fD a r p.length acc).2.1→fr' 6=.int .i64 (fD a r p.length acc).2.2→Q fr' S) →
  Ok (aE T (.lp Bs::.blk 0::K) fr S) Q:=by
 intro r
 induction r with
 |nil=>
  intro p acc e hp hacc fr h1 h7 h20 h21 h22 k1 k2;rw[eP]at e;subst e;rw[ax];simp -implicitDefEqProofs [h21,h22]
  exact k1 rfl _
 |cons d r ih=>
  intro p acc e hp hacc fr h1 h7 h20 h21 h22 k1 k2;have hlt:p.length<s.length:=by rw[e];simp
  have hg:=WW hv e;have hw:=pQ (a:=p.length) (by omega);have hd:=d.toNat_lt;have h7k:IntKind.i64.wrap (7*(p.length:Int))=((7*p.length:Nat):Int):=by rw[au (by omega) (by omega)];omega
  have hx:d.toNat%128<128:=by omega
  have hw64:=iY (n:=d.toNat%128) (by omega);have hsh:=WU (a:=d.toNat%128) hp hx;have hor:=WV hp hacc hx;have hstep:=Eu (d:=d.toNat) hacc;have hpl:128^(p.length+1)≤9223372036854775808:=Nat.le_trans (nv (by decide) (show p.length+1≤9 by omega)) (by decide);have hA0:acc+d.toNat%128*128^p.length<9223372036854775808:=by omega
  generalize hX:d.toNat%128*128^p.length=X at *;generalize hA:acc+X=A at *;have hw64':IntKind.u64.wrap ((d.toNat:Int)%128)=(d.toNat:Int)%128:=by simpa using hw64
  have h7k':IntKind.i64.wrap (7*(p.length:Int))=7*(p.length:Int):=by simpa using h7k
  have hsh':arith .shl (.int .u64 ((d.toNat:Int)%128)) (.int .i64 (7*(p.length:Int)))=some (.int .u64 (X:Int)):=by simpa using hsh
  have hwA:IntKind.i64.wrap (A:Int)=(A:Int):=by rw[au]<;>omega
  have hn1:IntKind.i64.wrap ((a:Int)+(p.length:Int))=(a:Int)+(p.length:Int):=by rw[au (by omega) (by omega)]
  have hn2:IntKind.i64.wrap ((a:Int)+(p.length:Int)+1)=(a:Int)+(p.length:Int)+1:=by rw[au (by omega) (by omega)]
  rw[ax];simp -implicitDefEqProofs [h1,h7,h20,h21,h22,hlt,hg,p1];refine cA (fun c=>?_) (fun c=>?_)
  ·have hc:(p.length=8∧127<d.toNat)∨(0<p.length∧d.toNat=0):=by simp at c;omega
   have hr:fD a (d::r) p.length acc=(0,0,5):=by rw[fD,if_pos hc]
   rw[hr]at k2;exact iD (k2 _ (by simp) (by simp) (by simp))
  ·have hc:¬((p.length=8∧127<d.toNat)∨(0<p.length∧d.toNat=0)):=by simp at c;omega
   simp -implicitDefEqProofs [h1,h7,WT,hw64',h7k',hsh',hor,hwA,hn1,hn2];refine cA (fun q=>?_) (fun q=>?_)
   ·have hq:d.toNat<128:=by simp at q;omega
    have hr:fD a (d::r) p.length acc=(A,a+p.length+1,0):=by rw[fD,if_neg hc,if_pos hq,hX,hA]
    rw[hr]at k2;exact iD (k2 _ (by simp) (by simp) (by simp))
   ·have hq:¬d.toNat<128:=by simp at q;omega
    have hr:fD a (d::r) p.length acc=fD a r (p.length+1) A:=by rw[fD,if_neg hc,if_neg hq,hX,hA]
    rw[hr]at k1 k2;have hlen:(p++[d]).length=p.length+1:=by simp
    refine ih (p++[d]) A (by simp[e]) (by rw[hlen];omega) (by rw[hlen];exact hstep) _ (by simp[h1]) (by simp) (by simp[h20]) (by simp[h21]) (by simp[hw]) (by rw[hlen];exact k1) (by rw[hlen];exact k2)
def yM{s:List UInt8}{v:PV}(hv:ba 1 v (aI s))(hs:s.length≤67108864){i:Int}(S:St):aN T 110 [v,.int .i64 i] S=some (lT (dJ s i),S):=by
 have hlen:=hv.len;rw[bh]at hlen;refine bZ WQ rfl ?_;simp -implicitDefEqProofs [so,hlen];refine cA (fun c=>?_) (fun c=>?_)
 ·have hc:i<0∨(s.length:Int)<i:=by simpa using c
  have hr:dJ s i=(0,0,2):=by rw[dJ,if_pos hc]
  simp[hr,lT];rw[cZ (aL.refl S) rfl];rfl
 ·have hc:¬(i<0∨(s.length:Int)<i):=by simpa using c
  obtain⟨a,rfl⟩:=xi (show 0≤i by omega);have ha:a≤s.length:=by omega
  obtain⟨v2,e1,e2⟩:=hv.lo (lo:=a) (k:=.i64) (by rw[bh];exact ha);have e2':ba 1 v2 (aI (s.drop a)):=by simpa[aI]using e2
  have hlen2:=e2'.len;rw[bh]at hlen2;have hr:dJ s (a:Int)=fD a (s.drop a) 0 0:=by rw[dJ,if_neg hc];rfl
  have hw0:(((s.drop a).length:Nat):Int)=((s.length-a:Nat):Int):=by simp
  simp -implicitDefEqProofs [hlen,e1,hlen2];rw[hr];refine WX (s:=s.drop a) e2'.reads (a:=a) (by rw[kd];omega) (s.drop a) [] 0 rfl (by simp) (by simp) _ (by simp) (by simp) (by simp) (by simp) (by simp) (fun hz fr'=>?_) (fun fr' g4 g5 g6=>?_)
  ·have hz':fD a (s.drop a) 0 0=(0,0,4):=hz;simp[hz',lT];rw[cZ (aL.refl S) rfl];rfl
  ·simp[g4,g5,g6,lT];rw[cZ (aL.refl S) rfl];rfl
def jC(s:List UInt8)(i:Int):List UInt8×Nat×Nat:=
 if(dJ s i).2.2≠0 then([],0,(dJ s i).2.2)else if 65535<(dJ s i).1 then([],0,3)else if s.length-(dJ s i).2.1<(dJ s i).1 then([],0,4)else
 ((s.drop (dJ s i).2.1).take (dJ s i).1,(dJ s i).2.1+(dJ s i).1,0)
def oB(x:List UInt8×Nat×Nat):PV:=.tup [.str x.1,.int .i64 x.2.1,.int .i64 x.2.2]
def WY{s:List UInt8}{v:PV}(hv:ba 1 v (aI s)){n nx:Nat}(h1:nx≤s.length)(h2:n≤s.length-nx) :
  ∃v',eM 1 (some (.int .i64 (nx:Int))) (some (.int .i64 ((nx:Int)+(n:Int)))) v=some v'∧eX v'=some (.str ((s.drop nx).take n)):=by
 obtain⟨v',e1,e2⟩:=hv.lh (lo:=nx) (hi:=nx+n) (k:=.i64) (j:=.i64) (by omega) (by rw[bh];omega);refine⟨v',by simpa using e1,kC ?_⟩
 have:(List.drop nx (List.take (nx+n) (aI s)))=aI ((s.drop nx).take n):=by
  simp only[aI,←np,←rO];rw[ES]
  congr 2
  omega
 rw[this]at e2;exact e2
def WZ{s:List UInt8}{v:PV}(hv:ba 1 v (aI s))(hs:s.length≤67108864){i:Int}(S:St):aN T 111 [v,.int .i64 i] S=some (oB (jC s i),S):=by
 have hlen:=hv.len;rw[bh]at hlen;have hg:=yM hv hs (i:=i) S;have hok:=Ew (s:=s) (i:=i);unfold jC;obtain⟨⟨n,nx,e⟩,hu⟩:∃q,dJ s i=q:=⟨_,rfl⟩;rw[hu]at hg hok;simp only[lT]at hg hok;simp only[hu];generalize hR:(if e≠0 then(([],0,e):List UInt8×Nat×Nat)else _)=R;refine bZ WR rfl ?_;simp -implicitDefEqProofs [z26,hg];refine cA (fun c=>?_) (fun c=>?_)
 ·have hc:e≠0:=by simpa using c
  rw[if_pos hc]at hR;subst hR;simp[oB];rw[cZ (aL.refl S) rfl];rfl
 ·have hc:e=0:=by simpa using c
  subst hc;obtain⟨o1,o2⟩:=hok rfl;rw[if_neg (by decide)]at hR;refine cA (fun c=>?_) (fun c=>?_)
  ·have hc:65535<n:=by simp at c;omega
   rw[if_pos hc]at hR;subst hR;simp[oB];rw[cZ (aL.refl S) rfl];rfl
  ·have hc:¬65535<n:=by simp at c;omega
   rw[if_neg hc]at hR;have hw:IntKind.i64.wrap ((s.length:Int)-(nx:Int))=(s.length:Int)-(nx:Int):=by rw[au (by omega) (by omega)]
   simp -implicitDefEqProofs [hlen,hw];refine cA (fun c=>?_) (fun c=>?_)
   ·have hc:s.length-nx<n:=by simp at c;omega
    rw[if_pos hc]at hR;subst hR;simp[oB];rw[cZ (aL.refl S) rfl];rfl
   ·have hc:¬s.length-nx<n:=by simp at c;omega
    rw[if_neg hc]at hR;subst hR;obtain⟨v',e1,e2⟩:=WY hv (n:=n) (nx:=nx) o1 (by omega);have hw2:IntKind.i64.wrap ((nx:Int)+(n:Int))=(nx:Int)+(n:Int):=by rw[au (by omega) (by omega)]
    simp -implicitDefEqProofs [hw2,e1,e2,oB];rw[cZ (aL.refl S) rfl];rfl
end Ps
