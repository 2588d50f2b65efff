/- Labels: right sets, held against each other, laid down and read (out of the label seat's texts) -/
import Derived.Test.YtpjmpaidcidjgaaGreatDoorAbbKw
import Derived.Test.YtpjmpaidcidjgaaGreatDoorCXKw
import Derived.Test.YtpjmpaidcidjgaaGreatDoorOkDKw
import Derived.Test.YtpjmpaidcidjgaaGreatDoorRowKw
set_option linter.defProp false
namespace Ps
set_option linter.unusedSimpArgs false
set_option linter.unusedVariables false
open Go
def TL:T.fn 121=some (.code z57):=rfl
def TM:T.fn 126=some (.code qf):=rfl
def gY(c:UInt8):Bool:=(97≤c.toNat&&c.toNat≤122)||(65≤c.toNat&&c.toNat≤90)||c.toNat==95
def iA(c:UInt8):Bool:=48≤c.toNat&&c.toNat≤57
def vz(l:List UInt8):Bool:=l.all fun c=>gY c||iA c
def jX:List UInt8→Bool
 | []=>false
 |c::l=>gY c&&vz l&&decide (l.length+1≤32)
def fL(first:Bool):List UInt8→Bool
 | []=>true
 |c::l=>(gY c||(!first&&iA c))&&fL false l
theorem BM:∀l,fL false l=vz l
 | []=>rfl
 |c::l=>by simp[fL,vz,BM l]
def sN(s:List UInt8):jX s=(fL true s&&(!(s==[])&&decide (s.length≤32))):=by
 cases s with
 |nil=>rfl
 |cons c l=>simp[jX,fL,BM,Ak]
def TN{s:List UInt8}(hs:s.length≤maxLen){K:List Kt}{S:St}{Q:Fr→St→Prop}:∀(rest pre:List UInt8),s=pre++rest→∀(fr:Fr),
  fr 0=.str s→fr 6=.int .i64 s.length→fr 7=.int .i64 pre.length →
  (fL pre.isEmpty rest=true→∀fr',fr' 0=.str s→Ok (aE T K fr' S) Q)→(fL pre.isEmpty rest=false→∀fr',fr' 2=.bool false→Q fr' S) →
  Ok (aE T (.lp tT::.blk 0::K) fr S) Q:=by
 intro rest
 induction rest with
 |nil=>
  intro pre hp fr h0 h6 h7 k1 k2;rw[dR]at hp;subst hp;rw[aV];simp[h0,h6,h7]
  exact k1 rfl _ (by simp[h0])
 |cons c rest ih=>
  intro pre hp fr h0 h6 h7 k1 k2;have hi:pre.length<s.length:=by rw[hp];simp
  have hc:s[pre.length]=c:=by simp[hp]
  unfold maxLen at hs;have hw:=jt (a:=pre.length) (by omega);have hn:(!pre.isEmpty)=decide (0<pre.length):=by cases pre<;>simp
  have he:(pre++[c]).isEmpty=false:=by simp
  have hL:∀fr',fr' 0=.str s→fr' 6=.int .i64 s.length→fr' 7=.int .i64 ((pre.length+1:Nat):Int)→(gY c||(decide (0<pre.length)&&iA c))=true→Ok (aE T (.lp tT::.blk 0::K) fr' S) Q:=by
   intro fr' g0 g6 g7 gl;refine ih (pre++[c]) (by simp[hp]) fr' g0 g6 (by simpa using g7) (fun h=>k1 ?_) (fun h=>k2 ?_)
   ·rw[he]at h;simp only[fL,hn,gl,h,Bool.and_self]
   ·rw[he]at h;simp only[fL,h,Bool.and_false]
  have hR:∀fr',fr' 2=.bool false→(gY c||(decide (0<pre.length)&&iA c))=false→Q fr' S:=fun fr' g2 gl=>k2 (by simp only[fL,hn,gl,Al]) fr' g2;clear k1 k2;rw[aV];simp -implicitDefEqProofs [h0,h6,h7,hi,hc]
  refine bV (fun a1=>bV (fun _=>hL _ (by simp[h0]) (by simp[h6]) (by simp[hw]) ?_) (fun a2=>absurd a1 (by simp[a2]))) (fun a1=>bV (fun a2=>bV (fun _=>hL _ (by simp[h0]) (by simp[h6]) (by simp[hw]) ?_) (fun a3=>absurd a2 (by simp[a3])))
   (fun a2=>bV (fun a3=>hL _ (by simp[h0]) (by simp[h6]) (by simp[hw]) ?_) (fun a3=>bV (fun a4=>hL _ (by simp[h0]) (by simp[h6]) (by simp[hw]) ?_) (fun a4=>dj (hR _ (by simp) ?_)))))
  ·simp[gY,iA]at a1 ⊢;omega
  ·simp[gY,iA]at a2 ⊢;omega
  ·simp[gY,iA]at a3 ⊢;omega
  ·simp[gY,iA]at a4 ⊢;omega
  ·simp[gY,iA]at a1 a2 a3 a4 ⊢;omega
def TO{s:List UInt8}(hs:s.length≤maxLen):aM T 121 [.str s] bT=some (.bool (jX s),bT):=by
 refine bP TL rfl ?_;simp[z57];refine TN hs s [] rfl _ (by simp) (by simp) (by simp) (fun h fr' g0=>?_) (fun h fr' g2=>?_)
 ·simp[g0,sN,show fL true s=true from h]
  congr 1;exact decide_eq_decide.2 (by omega)
 ·simp[g2,sN,show fL true s=false from h]
def TP{s:List UInt8}(hs:s.length≤maxLen){K:List Kt}{S:St}{Q:Fr→St→Prop}:∀(rest pre:List UInt8),s=pre++rest→∀(fr:Fr),
  fr 0=.str s→fr 3=.int .i64 pre.length →
  (fL pre.isEmpty rest=true→∀fr',fr' 0=.str s→Ok (aE T K fr' S) Q)→(fL pre.isEmpty rest=false→∀fr',fr' 2=.bool false→Q fr' S) →
  Ok (aE T (.lp tU::.blk 0::K) fr S) Q:=by
 intro rest
 induction rest with
 |nil=>
  intro pre hp fr h0 h3 k1 k2;rw[dR]at hp;subst hp;rw[aV];simp[h0,h3]
  exact k1 rfl _ (by simp[h0])
 |cons c rest ih=>
  intro pre hp fr h0 h3 k1 k2;have hi:pre.length<s.length:=by rw[hp];simp
  have hc:s[pre.length]=c:=by simp[hp]
  unfold maxLen at hs;have hw:=jt (a:=pre.length) (by omega);have hn:(!pre.isEmpty)=decide (0<pre.length):=by cases pre<;>simp
  have hn0:pre=[]↔pre.length=0:=by cases pre<;>simp
  have he:(pre++[c]).isEmpty=false:=by simp
  have hL:∀fr',fr' 0=.str s→fr' 3=.int .i64 ((pre.length+1:Nat):Int)→(gY c||(decide (0<pre.length)&&iA c))=true→Ok (aE T (.lp tU::.blk 0::K) fr' S) Q:=by
   intro fr' g0 g3 gl;refine ih (pre++[c]) (by simp[hp]) fr' g0 (by simpa using g3) (fun h=>k1 ?_) (fun h=>k2 ?_)
   ·rw[he]at h;simp only[fL,hn,gl,h,Bool.and_self]
   ·rw[he]at h;simp only[fL,h,Bool.and_false]
  have hR:∀fr',fr' 2=.bool false→(gY c||(decide (0<pre.length)&&iA c))=false→Q fr' S:=fun fr' g2 gl=>k2 (by simp only[fL,hn,gl,Al]) fr' g2;clear k1 k2;rw[aV];simp -implicitDefEqProofs [h0,h3,hi,hc];refine bV (fun a1=>dj (hR _ (by simp) ?_)) (fun a1=>hL _ (by simp[h0]) (by simp[hw]) ?_)
  ·simp[gY,iA,-List.length_eq_zero_iff]at a1 ⊢;omega
  ·simp[gY,iA,-List.length_eq_zero_iff]at a1 ⊢;omega
def TQ{s:List UInt8}(hs:s.length≤maxLen):aM T 126 [.str s] bT=some (.bool (jX s),bT):=by
 refine bP TM rfl ?_;simp[qf];refine TP hs s [] rfl _ (by simp) (by simp) (fun h fr' g0=>?_) (fun h fr' g2=>?_)
 ·simp[g0,sN,show fL true s=true from h]
  congr 1;exact decide_eq_decide.2 (by omega)
 ·simp[g2,sN,show fL true s=false from h]
def TR{s:List UInt8}(hs:s.length≤maxLen):di T 121 [.str s]=some (.bool (jX s)):=oR (TO hs) rfl rfl
def TS{s:List UInt8}(hs:s.length≤maxLen):di T 126 [.str s]=some (.bool (jX s)):=oR (TQ hs) rfl rfl
def TT:T.fn 40=some (.code z36):=rfl
def TU:T.fn 98=some (.code qT):=rfl
abbrev aT:=List UInt8×List UInt8×Unit
def ac(x:aT):PV:=.agg [.str x.1,.str x.2.1]
@[simp]def ki(x:aT):(ac x).cells=[.str x.1,.str x.2.1]:=rfl
def dO(l:List aT)(i:Nat)(h:i<l.length):Nat:=
 if jX l[i].1=false then 8 else if l[i].2.1.isEmpty then 2 else if 64<l[i].2.1.length then 3 else
 if h0:0<i then(if(Op.bytesLess l[i].1 l[i-1].1||l[i].1==l[i-1].1)=true then 13 else 0)else 0
def fM(l:List aT)(i:Nat):Nat:=
 if h:i<l.length then(if dO l i h=0 then fM l (i+1)else dO l i h)else 0
termination_by l.length-i
def dn(l:List aT):Nat:=if 8<l.length then 3 else fM l 0
def TV{l:List aT}{v:PV}(hv:bW 2 v (l.map ac))(hn:∀x∈l,x.1.length≤maxLen)(hl:l.length≤maxLen){K:List Kt}{Q:Fr→St→Prop}{S0:St}:∀(n i:Nat),l.length-i=n→i≤l.length→∀(fr:Fr) (S:St),
  fr 0=v→fr 8=v→fr 9=.int .i64 l.length→fr 10=.int .i64 i→aN S0 S→(fM l i=0→∀fr' S',aN S0 S'→Ok (aE T K fr' S') Q) →
  (fM l i≠0→∀fr' S',aN S0 S'→fr' 2=.int .i64 (fM l i)→Q fr' S')→Ok (aE T (.lp tK::.blk 0::K) fr S) Q:=by
 intro n
 induction n with
 |zero=>
  intro i hni hil fr S h0 h8 h9 h10 hg k1 k2;have hi:i=l.length:=by omega
  have hc:fM l i=0:=by rw[fM,dif_neg (by omega)]
  rw[aV];simp -implicitDefEqProofs [h0,h8,h9,h10,hi]
  exact k1 hc _ _ hg
 |succ n ih=>
  intro i hni hil fr S h0 h8 h9 h10 hg k1 k2;have hi:i<l.length:=by omega
  have hget:=hv.get i (by simpa using hi) .i64;have hx:(l.map ac)[i]'(by simpa using hi)=ac l[i]:=by simp
  rw[hx,ki]at hget;have hpv:=TR (hn l[i] (cr hi));unfold maxLen at hl;have hw:=jt (a:=i) (by omega);have hpo:∀{a b:PV},az true 2 [a,b]=some (.agg [a,b]):=fun {a b}=>rfl;have hp1:∀{a:PV} {m:List PV},az false 1 (a::m)=some a:=fun {a m}=>by simp[az]
  rw[fM,dif_pos hi]at k1 k2
  have hL:dO l i hi=0→∀fr' S',fr' 0=v→fr' 8=v→fr' 9=.int .i64 l.length→fr' 10=.int .i64 ((i+1:Nat):Int)→aN S0 S'→Ok (aE T (.lp tK::.blk 0::K) fr' S') Q:=by
   intro hz fr' S' g0 g8 g9 g10 gg;rw[if_pos hz]at k1 k2;exact ih (i+1) (by omega) (by omega) fr' S' g0 g8 g9 g10 gg k1 k2
  have hR:∀(e:Nat),e≠0→dO l i hi=e→∀fr' S',fr' 2=.int .i64 e→aN S0 S'→Q fr' S':=by
   intro e he hz fr' S' g2 gg;rw[if_neg (by rw[hz];exact he),hz]at k2;exact k2 he fr' S' gg g2
  clear k1 k2 ih;by_cases hi0:0<i
  ·have hgetp:=hv.get (i-1) (by simp;omega) .i64;have hxp:(l.map ac)[i-1]'(by simp;omega)=ac l[i-1]:=by simp
   rw[hxp,ki]at hgetp;have hsub:IntKind.i64.wrap ((i:Int)-1)=((i-1:Nat):Int):=by rw[au]<;>omega
   rw[aV];simp -implicitDefEqProofs [h0,h8,h9,h10,hi,hget,hpo,hp1,hpv,hi0,hgetp,hsub,aH,bK]
   refine bV (fun a1=>dj (hR 8 (by decide) ?_ _ _ (by simp) (hg.obj _))) (fun a1=>bV (fun a2=>dj (hR 2 (by decide) ?_ _ _ (by simp) (hg.obj _))) (fun a2=>bV (fun a3=>dj (hR 3 (by decide) ?_ _ _ (by simp) (hg.obj _)))
    (fun a3=>bV (fun a4=>dj (hR 13 (by decide) ?_ _ _ (by simp) (hg.obj _))) (fun a4=>hL ?_ _ _ (by simp[h0]) (by simp[h8]) (by simp[h9]) (by simp[hw]) (hg.obj _)))))
   ·rw[dO,if_pos (by simpa using a1)]
   ·rw[dO,if_neg (by simpa using a1),if_pos a2]
   ·rw[dO,if_neg (by simpa using a1),if_neg (by simp[a2]),if_pos (by simp at a3;omega)]
   ·rw[dO,if_neg (by simpa using a1),if_neg (by simp[a2]),if_neg (by simp at a3;omega),dif_pos hi0,if_pos a4]
   ·rw[dO,if_neg (by simpa using a1),if_neg (by simp[a2]),if_neg (by simp at a3;omega),dif_pos hi0,if_neg (by simp only[a4];decide)]
  ·rw[aV];simp -implicitDefEqProofs [h0,h8,h9,h10,hi,hget,hpo,hp1,hpv,hi0,aH,bK]
   refine bV (fun a1=>dj (hR 8 (by decide) ?_ _ _ (by simp) (hg.obj _))) (fun a1=>bV (fun a2=>dj (hR 2 (by decide) ?_ _ _ (by simp) (hg.obj _))) (fun a2=>bV (fun a3=>dj (hR 3 (by decide) ?_ _ _ (by simp) (hg.obj _)))
    (fun a3=>hL ?_ _ _ (by simp[h0]) (by simp[h8]) (by simp[h9]) (by simp[hw]) (hg.obj _))))
   ·rw[dO,if_pos (by simpa using a1)]
   ·rw[dO,if_neg (by simpa using a1),if_pos a2]
   ·rw[dO,if_neg (by simpa using a1),if_neg (by simp[a2]),if_pos (by simp at a3;omega)]
   ·rw[dO,if_neg (by simpa using a1),if_neg (by simp[a2]),if_neg (by simp at a3;omega),dif_neg hi0]
def TW{l:List aT}{v:PV}(hv:bW 2 v (l.map ac))(hn:∀x∈l,x.1.length≤maxLen)(hl:l.length≤maxLen){K:List Kt}{Q:Fr→St→Prop}{S0:St}:∀(n i:Nat),l.length-i=n→i≤l.length→∀(fr:Fr) (S:St),
  fr 0=v→fr 3=.int .i64 i→aN S0 S→(fM l i=0→∀fr' S',aN S0 S'→Ok (aE T K fr' S') Q) →
  (fM l i≠0→∀fr' S',aN S0 S'→fr' 2=.int .i64 (fM l i)→Q fr' S')→Ok (aE T (.lp tR::.blk 0::K) fr S) Q:=by
 intro n
 induction n with
 |zero=>
  intro i hni hil fr S h0 h3 hg k1 k2;have hi:i=l.length:=by omega
  have hc:fM l i=0:=by rw[fM,dif_neg (by omega)]
  rw[aV];simp -implicitDefEqProofs [h0,h3,hi,hv.len]
  exact k1 hc _ _ hg
 |succ n ih=>
  intro i hni hil fr S h0 h3 hg k1 k2;have hi:i<l.length:=by omega
  have hget:=hv.get i (by simpa using hi) .i64;have hx:(l.map ac)[i]'(by simpa using hi)=ac l[i]:=by simp
  rw[hx,ki]at hget;have hpv:=TS (hn l[i] (cr hi));unfold maxLen at hl;have hw:=jt (a:=i) (by omega);have hpo:∀{a b:PV},az true 2 [a,b]=some (.agg [a,b]):=fun {a b}=>rfl;have hp1:∀{a:PV} {m:List PV},az false 1 (a::m)=some a:=fun {a m}=>by simp[az]
  rw[fM,dif_pos hi]at k1 k2
  have hL:dO l i hi=0→∀fr' S',fr' 0=v→fr' 3=.int .i64 ((i+1:Nat):Int)→aN S0 S'→Ok (aE T (.lp tR::.blk 0::K) fr' S') Q:=by
   intro hz fr' S' g0 g3 gg;rw[if_pos hz]at k1 k2;exact ih (i+1) (by omega) (by omega) fr' S' g0 g3 gg k1 k2
  have hR:∀(e:Nat),e≠0→dO l i hi=e→∀fr' S',fr' 2=.int .i64 e→aN S0 S'→Q fr' S':=by
   intro e he hz fr' S' g2 gg;rw[if_neg (by rw[hz];exact he),hz]at k2;exact k2 he fr' S' gg g2
  clear k1 k2 ih;by_cases hi0:0<i
  ·have hgetp:=hv.get (i-1) (by simp;omega) .i64;have hxp:(l.map ac)[i-1]'(by simp;omega)=ac l[i-1]:=by simp
   rw[hxp,ki]at hgetp;have hsub:IntKind.i64.wrap ((i:Int)-1)=((i-1:Nat):Int):=by rw[au]<;>omega
   rw[aV];simp -implicitDefEqProofs [h0,h3,hi,hv.len,hget,hpo,hp1,hpv,hi0,hgetp,hsub,aH,bK]
   refine bV (fun a1=>dj (hR 8 (by decide) ?_ _ _ (by simp) hg)) (fun a1=>bV (fun a2=>dj (hR 2 (by decide) ?_ _ _ (by simp) hg)) (fun a2=>bV (fun a3=>dj (hR 3 (by decide) ?_ _ _ (by simp) hg))
    (fun a3=>bV (fun a4=>dj (hR 13 (by decide) ?_ _ _ (by simp) hg)) (fun a4=>hL ?_ _ _ (by simp[h0]) (by simp[hw]) hg))))
   ·rw[dO,if_pos (by simpa using a1)]
   ·rw[dO,if_neg (by simpa using a1),if_pos a2]
   ·rw[dO,if_neg (by simpa using a1),if_neg (by simp[a2]),if_pos (by simp at a3;omega)]
   ·rw[dO,if_neg (by simpa using a1),if_neg (by simp[a2]),if_neg (by simp at a3;omega),dif_pos hi0,if_pos a4]
   ·rw[dO,if_neg (by simpa using a1),if_neg (by simp[a2]),if_neg (by simp at a3;omega),dif_pos hi0,if_neg (by simp only[a4];decide)]
  ·rw[aV];simp -implicitDefEqProofs [h0,h3,hi,hv.len,hget,hpo,hp1,hpv,hi0,aH,bK]
   refine bV (fun a1=>dj (hR 8 (by decide) ?_ _ _ (by simp) hg)) (fun a1=>bV (fun a2=>dj (hR 2 (by decide) ?_ _ _ (by simp) hg)) (fun a2=>bV (fun a3=>dj (hR 3 (by decide) ?_ _ _ (by simp) hg))
    (fun a3=>hL ?_ _ _ (by simp[h0]) (by simp[hw]) hg)))
   ·rw[dO,if_pos (by simpa using a1)]
   ·rw[dO,if_neg (by simpa using a1),if_pos a2]
   ·rw[dO,if_neg (by simpa using a1),if_neg (by simp[a2]),if_pos (by simp at a3;omega)]
   ·rw[dO,if_neg (by simpa using a1),if_neg (by simp[a2]),if_neg (by simp at a3;omega),dif_neg hi0]
def TX{l:List aT}{v:PV}(hv:bW 2 v (l.map ac))(hn:∀x∈l,x.1.length≤maxLen)(hl:l.length≤maxLen)(S:St):aM T 40 [v] S=some (.int .i64 (dn l),S):=by
 refine bP TT rfl ?_;simp -implicitDefEqProofs [z36,hv.len];refine bV (fun a=>?_) (fun a=>?_)
 ·have h:dn l=3:=by rw[dn,if_pos (by simp at a;omega)]
  simp[h]
 ·have h:dn l=fM l 0:=by rw[dn,if_neg (by simp at a;omega)]
  refine TV hv hn hl l.length 0 (by omega) (by omega) _ S (by simp) (by simp) (by simp) (by simp) (aN.refl S) (fun hz fr' S' gg=>?_) (fun hz fr' S' gg g2=>?_)
  ·simp[gg,h,hz]
  ·simp[gg,g2,h]
def TY{l:List aT}{v:PV}(hv:bW 2 v (l.map ac))(hn:∀x∈l,x.1.length≤maxLen)(hl:l.length≤maxLen)(S:St):aM T 98 [v] S=some (.int .i64 (dn l),S):=by
 refine bP TU rfl ?_;simp -implicitDefEqProofs [qT,hv.len];refine bV (fun a=>?_) (fun a=>?_)
 ·have h:dn l=3:=by rw[dn,if_pos (by simp at a;omega)]
  simp[h]
 ·have h:dn l=fM l 0:=by rw[dn,if_neg (by simp at a;omega)]
  refine TW hv hn hl l.length 0 (by omega) (by omega) _ S (by simp) (by simp) (aN.refl S) (fun hz fr' S' gg=>?_) (fun hz fr' S' gg g2=>?_)
  ·simp[gg,h,hz]
  ·simp[gg,g2,h]
abbrev gE:Ty:=.st (.pair .str (.pair .str .unit))
def ng(x:(Ty.sl gE).den):List aT:=match x with|none=>[]|some q=>q.1
def TZ{x:(Ty.sl gE).den}(h:(Ty.sl gE).wf x):(ng x).length≤maxLen∧∀y∈ng x,y.1.length≤maxLen∧y.2.1.length≤maxLen:=by
 cases x with
 |none=>exact⟨bb _,fun y hy=>by simp[ng]at hy⟩
 |some q=>
  obtain⟨es,sp⟩:=q;exact⟨Nat.le_trans (Nat.le_add_right _ _) h.1,fun y hy=>⟨(h.2.1 y hy).1,(h.2.1 y hy).2.1⟩⟩
def Ta:T.fn 102=some (.code qU):=rfl
def Tb:T.fn 216=some (.code qh):=rfl
def Tc:T.fn 26=some (.code qK):=rfl
def de(a b:List UInt8):Int:=if Op.bytesLess a b then -1 else if(Op.bytesLess a b||a==b)then 0 else 1
def eq(x y:aT):Int:=if de x.1 y.1=0 then de x.2.1 y.2.1 else de x.1 y.1
def iB:List aT→List aT→Option Int
 | [],_=>none
 |_::_,[]=>some 1
 |x::a,y::b=>if eq x y=0 then iB a b else some (eq x y)
def dJ(a b:List aT):Int:=match iB a b with|some c=>c|none=>if a.length<b.length then -1 else 0
def Td(a b:List UInt8):di T 216 [.str a,.str b]=some (.int .i64 (de a b)):=by
 refine oR ?_ rfl rfl;refine bP Tb rfl ?_;simp -implicitDefEqProofs [qh];refine bV (fun h=>?_) (fun h=>bV (fun h2=>?_) (fun h2=>?_))
 ·simp[de,h]
 ·simp[de,h]at h2 ⊢;simp[h2]
 ·simp[de,h]at h2 ⊢;simp[h2]
def sO{l p r:List aT}{x:aT}{v:PV}(hv:bW 2 v (l.map ac))(hl:l=p++x::r):cC 2 v (.int .i64 (p.length:Int))=some (.ref [.str x.1,.str x.2.1]):=by
 have h:p.length<(l.map ac).length:=by rw[hl];simp
 have:=hv.get p.length h .i64;have e:(l.map ac)[p.length]=ac x:=by simp[hl]
 rw[e,ki]at this;exact this
def iC:List aT→List aT→Option Int
 |x::a,y::b=>if eq x y=0 then iC a b else some (eq x y)
 |_,_=>none
theorem BN:∀a b:List aT,dJ a b=match iC a b with|some c=>c|none=>if a.length<b.length then -1 else if b.length<a.length then 1 else 0
 | [],[]=>rfl
 | [],y::b=>by simp[dJ,iB,iC]
 |x::a,[]=>by simp[dJ,iB,iC]
 |x::a,y::b=>by
  have ih:=BN a b;simp only[dJ,iB,iC]at ih ⊢;by_cases h:eq x y=0
  ·simp only[h,if_true,bE,Nat.add_lt_add_iff_right];exact ih
  ·simp[h]
def Te{l1 l2:List aT}{v1 v2:PV}(hv1:bW 2 v1 (l1.map ac))(hv2:bW 2 v2 (l2.map ac))(hl1:l1.length≤maxLen){K:List Kt}{Q:Fr→St→Prop}{S:St}:∀(r1 p1 r2 p2:List aT),l1=p1++r1→l2=p2++r2→p2.length=p1.length→∀(fr:Fr),
  fr 0=v1→fr 1=v2→fr 5=.int .i64 p1.length →
  (iC r1 r2=none→∀fr',fr' 0=v1→fr' 1=v2→Ok (aE T K fr' S) Q)→(∀c,iC r1 r2=some c→∀fr',fr' 4=.int .i64 c→Q fr' S) →
  Ok (aE T (.lp yN::.blk 0::K) fr S) Q:=by
 intro r1
 induction r1 with
 |nil=>
  intro p1 r2 p2 e1 e2 ep fr h0 h1 h5 k1 k2;rw[dR]at e1;subst e1;have hl:=hv1.len;have hl2:=hv2.len;rw[bU]at hl hl2;rw[aV];simp -implicitDefEqProofs [h0,h1,h5,hl]
  exact k1 (by simp[iC]) _ (by simp[h0]) (by simp[h1])
 |cons x r1 ih=>
  intro p1 r2 p2 e1 e2 ep fr h0 h1 h5 k1 k2;have hlt:p1.length<l1.length:=by rw[e1];simp
  have g1:=sO hv1 e1;unfold maxLen at hl1;have hw:=jt (a:=p1.length) (by omega);have hp1:∀{a:PV} {m:List PV},az false 1 (a::m)=some a:=fun {a m}=>by simp[az]
  have hl:=hv1.len;have hl2:=hv2.len;rw[bU]at hl hl2
  cases r2 with
  |nil=>
   have e2':l2.length=p1.length:=by rw[e2];simp[ep]
   rw[aV];simp -implicitDefEqProofs [h0,h1,h5,hlt,hl,hl2,e2']
   exact k1 (by simp[iC]) _ (by simp[h0]) (by simp[h1])
  |cons y r2=>
   have hlt2:p1.length<l2.length:=by rw[e2];simp[ep]
   have g2:=sO hv2 e2;rw[ep]at g2;rw[aV];simp -implicitDefEqProofs [h0,h1,h5,hlt,g1,hp1,hl,hl2,hlt2,g2,Td];refine bV (fun a=>?_) (fun a=>bV (fun b=>?_) (fun b=>?_))
   ·have a':de x.1 y.1≠0:=by simpa using a
    exact dj (k2 (de x.1 y.1) (by simp[iC,eq,a']) _ (by simp))
   ·have a':de x.1 y.1=0:=by simpa using a
    have b':de x.2.1 y.2.1≠0:=by simpa using b
    exact dj (k2 (de x.2.1 y.2.1) (by simp[iC,eq,a',b']) _ (by simp))
   ·have a':de x.1 y.1=0:=by simpa using a
    have b':de x.2.1 y.2.1=0:=by simpa using b
    have c':eq x y=0:=by simp[eq,a',b']
    refine ih (p1++[x]) r2 (p2++[y]) (by simp[e1]) (by simp[e2]) (by simp[ep]) _ (by simp[h0]) (by simp[h1]) (by simp[hw]) (fun hz=>k1 ?_) (fun c hz=>k2 c ?_)
    ·simpa[iC,c']using hz
    ·simpa[iC,c']using hz
def BO{l1 l2:List aT}{v1 v2:PV}(hv1:bW 2 v1 (l1.map ac))(hv2:bW 2 v2 (l2.map ac))(hl1:l1.length≤maxLen)(S:St):aM T 102 [v1,v2] S=some (.int .i64 (dJ l1 l2),S):=by
 refine bP Ta rfl ?_;simp -implicitDefEqProofs [qU];have e:=BN l1 l2;refine Te hv1 hv2 hl1 l1 [] l2 [] rfl rfl rfl _ (by simp) (by simp) (by simp) (fun hz fr' g0 g1=>?_) (fun c hz fr' g4=>?_)
 ·rw[hz]at e;simp -implicitDefEqProofs [g0,g1,hv1.len,hv2.len];refine bV (fun a=>?_) (fun a=>bV (fun b=>?_) (fun b=>?_))
  ·have:dJ l1 l2 = -1:=by rw[e];simp at a;simp;omega
   simp[this]
  ·have:dJ l1 l2=1:=by rw[e];simp at a b;simp;omega
   simp[this]
  ·have:dJ l1 l2=0:=by rw[e];simp at a b;simp;omega
   simp[this]
 ·rw[hz]at e;simp[g4,e]
def Tf{l1 l2:List aT}{v1 v2:PV}(hv1:bW 2 v1 (l1.map ac))(hv2:bW 2 v2 (l2.map ac))(hl1:l1.length≤maxLen)(S:St):aM T 26 [v1,v2] S=some (.bool (dJ l1 l2==0),S):=by
 refine bP Tc rfl ?_;simp -implicitDefEqProofs [qK,BO hv1 hv2 hl1]
def kj{a b:List UInt8}:Op.bytesLess a b=true↔a<b:=by
 induction a generalizing b with
 |nil=>cases b<;>simp[Op.bytesLess]
 |cons x a ih=>cases b with
  |nil=>simp[Op.bytesLess]
  |cons y b=>simp[Op.bytesLess,ih,List.cons_lt_cons_iff]
def Tg(a b:List UInt8):de b a = - de a b:=by
 unfold de;by_cases h:a<b
 ·have h1:¬b<a:=fun k=>sH a (Az h k);have h2:¬b=a:=fun k=>by rw[k]at h;exact sH a h
  have e1:Op.bytesLess a b=true:=kj.2 h;have e2:Op.bytesLess b a=false:=by rw[nW];exact fun k=>h1 (kj.1 k)
  simp[e1,e2,h2]
 ·by_cases h1:b<a
  ·have h2:¬a=b:=fun k=>by rw[k]at h1;exact sH b h1
   have e1:Op.bytesLess b a=true:=kj.2 h1;have e2:Op.bytesLess a b=false:=by rw[nW];exact fun k=>h (kj.1 k)
   simp[e1,e2,h2]
  ·have h2:a=b:=List.le_antisymm h1 h;subst h2;have e2:Op.bytesLess a a=false:=by rw[nW];exact fun k=>h (kj.1 k)
   simp[e2]
def wB{a b:List UInt8}:de a b=0↔a=b:=by
 unfold de
 cases h:Op.bytesLess a b with
 |true=>
  simp;intro k;subst k
  exact sH a (kj.1 h)
 |false=>
  simp
def BP{x y:aT}:eq x y=0↔x=y:=by
 unfold eq;obtain⟨a,b,u⟩:=x;obtain⟨c,d,v⟩:=y;by_cases h:de a c=0
 ·simp only[h,if_true,wB];have:=wB.1 h;subst this;simp
 ·simp only[h,if_false,false_iff];intro e;exact h (wB.2 (by injection e))
def Th(x y:aT)(a b:List aT):dJ (x::a) (y::b)=if eq x y=0 then dJ a b else eq x y:=by
 simp only[dJ,iB];by_cases h:eq x y=0<;>simp[h]
@[simp]def aGM:dJ [] []=0:=rfl
@[simp]def aGN(y:aT)(b:List aT):dJ [] (y::b) = -1:=by simp[dJ,iB]
@[simp]def aGO(x:aT)(a:List aT):dJ (x::a) []=1:=by simp[dJ,iB]
theorem BQ:∀{a b:List aT},dJ a b=0↔a=b
 | [],[]=>by simp
 | [],y::b=>by simp
 |x::a,[]=>by simp
 |x::a,y::b=>by
  rw[Th];by_cases h:eq x y=0
  ·rw[if_pos h,BQ (a:=a) (b:=b)];have:=BP.1 h;subst this;simp
  ·simp only[h,if_false,vT];constructor
   ·intro e;exact absurd e (by simp)
   ·intro e;exact absurd (BP.2 e.1) h
def p1{a:PV}{m:List PV}:az false 1 (a::m)=some a:=by simp[az]
def p2{a b:PV}:az true 2 [a,b]=some (.agg [a,b]):=rfl
@[simp]def Ti(x:aT):(ac x).free=true:=rfl
@[simp]def Tj(x:aT):(ac x).frz=ac x:=rfl
@[simp]def aGP(x:aT):(ac x).cells.all PV.one=true:=rfl
def kD(l:List aT):PV.freeL (l.map ac)=true:=gv ac Ti l
def jY(l:List aT):PV.frzL (l.map ac)=l.map ac:=gS ac Tj l
def nh(l:List aT):∀e∈l.map ac,e.cells.length=2:=by
 intro e he;obtain⟨x,_,rfl⟩:=List.mem_map.1 he;rfl
structure BR(v:PV)(l:List aT):Prop where
 isl:cF 2 v (l.map ac)
 free:v.free=true
 frz:v.frz=v
def BR.reads{v:PV}{l:List aT}(h:BR v l):bW 2 v (l.map ac):=h.isl.reads
theorem sP(t:Ty)(h:∀x:t.den,1≤t.bulk x):∀l:List t.den,l.length≤(l.map t.bulk).sum
 | []=>aX _
 |x::l=>by
  have:=sP t h l;have:=h x;simp only[bE,cV,vh];omega
def wC(x:aT):Prop:=jX x.1=true∧x.2.1≠[]∧x.2.1.length≤64
def sQ(l:List aT):Prop:=l.length≤8∧(∀x∈l,wC x)∧l.Pairwise (fun x y=>x.1<y.1)
def BS{a b:List UInt8}:(Op.bytesLess b a||b==a)=false↔a<b:=by
 rw[←kj];have h:=Tg a b;unfold de at h;cases p:Op.bytesLess a b<;>cases q:Op.bytesLess b a<;>simp[p,q]at h ⊢
 ·by_cases e:a=b
  ·simp[e]
  ·have e':¬b=a:=fun k=>e k.symm;simp[e,e']at h
 ·intro e;subst e;rw[p]at q;cases q
def sR{l:List aT}{i:Nat}(h:i<l.length):dO l i h=0↔wC l[i]∧(∀h0:0<i,l[i-1].1<l[i].1):=by
 unfold dO wC
 cases hn:jX l[i].1 with
 |false=>simp
 |true=>
  by_cases b:l[i].2.1=[]
  ·simp[b]
  ·have b':l[i].2.1.isEmpty=false:=by simpa using b
   by_cases c:64<l[i].2.1.length
   ·have c':¬l[i].2.1.length≤64:=by omega
    simp[b',c,c']
   ·have c':l[i].2.1.length≤64:=by omega
    rw[if_neg (by simp),b',if_neg (by simp),if_neg c];by_cases d:0<i
    ·rw[dif_pos d];have q:=BS (a:=l[i-1].1) (b:=l[i].1)
     cases e:(Op.bytesLess l[i].1 l[i-1].1||l[i].1==l[i-1].1)with
     |true=>
      rw[e]at q;simp only[if_true];constructor
      ·intro k;cases k
      ·rintro⟨_,k⟩;have:=q.2 (k d)
       cases this
     |false=>
      rw[e]at q;simp only[bp,if_false,true_iff];exact⟨⟨trivial,b,c'⟩,fun _=>q.1 rfl⟩
    ·rw[dif_neg d];simp only[true_iff];exact⟨⟨trivial,b,c'⟩,fun h0=>absurd h0 d⟩
def Tk{l:List aT}:∀(n i:Nat),l.length-i=n→(fM l i=0↔∀j (h:j<l.length),i≤j→dO l j h=0):=by
 intro n
 induction n with
 |zero=>
  intro i hi;rw[fM,dif_neg (by omega)]
  exact⟨fun _ j h hj=>by omega,fun _=>rfl⟩
 |succ n ih=>
  intro i hi;rw[fM,dif_pos (by omega)];by_cases h0:dO l i (by omega)=0
  ·rw[if_pos h0,ih (i+1) (by omega)];constructor
   ·intro k j h hj;by_cases e:j=i
    ·subst e;exact h0
    ·exact k j h (by omega)
   ·intro k j h hj;exact k j h (by omega)
  ·rw[if_neg h0];exact⟨fun e=>absurd e h0,fun k=>absurd (k i (by omega) (aX _)) h0⟩
def Tl{l:List aT}:dn l=0↔sQ l:=by
 unfold dn sQ;by_cases h8:8<l.length
 ·simp[h8];omega
 ·rw[if_neg h8,Tk l.length 0 rfl];have h8':l.length≤8:=by omega
  simp only[h8',true_and];constructor
  ·intro k;refine⟨fun x hx=>?_,?_⟩
   ·obtain⟨i,hi,rfl⟩:=eC hx;exact((sR hi).1 (k i hi (bb _))).1
   ·rw[TC]
    have adj:∀d i j (hi:i<l.length) (hj:j<l.length),j=i+d+1→l[i].1<l[j].1:=by
     intro d
     induction d with
     |zero=>
      intro i j hi hj e;subst e
      exact((sR hj).1 (k _ hj (bb _))).2 (by omega)
     |succ d ih=>
      intro i j hi hj e;have h1:=ih i (j-1) hi (by omega) (by omega);have h2:=((sR hj).1 (k _ hj (bb _))).2 (by omega);exact Az h1 h2
    intro i j hi hj hij;exact adj (j-i-1) i j hi hj (by omega)
  ·rintro⟨k1,k2⟩ j h _;rw[sR h];rw[TC]at k2;exact⟨k1 _ (cr h),fun h0=>k2 (j-1) j (by omega) h (by omega)⟩
end Ps
