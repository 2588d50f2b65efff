/- Labels: right sets, held against each other, laid down and read (out of the label seat's texts) -/
import Derived.Test.YtbjefjhmnojdoaaGreatDefs
import Derived.Test.YtbjefjhmnojdoaaGreatTie
import Derived.Test.YtbjefjhmnojdoaaGreatOk
import Derived.Test.YtbjefjhmnojdoaaGreatRow
set_option linter.defProp false
namespace Ps
set_option linter.unusedSimpArgs false
set_option linter.unusedVariables false
open Go
def aCV:T.fn 121=some (.code tB):=rfl
def aCW:T.fn 126=some (.code tJ):=rfl
def jJ(c:UInt8):Bool:=(97≤c.toNat&&c.toNat≤122)||(65≤c.toNat&&c.toNat≤90)||c.toNat==95
def jg(c:UInt8):Bool:=48≤c.toNat&&c.toNat≤57
def Di(l:List UInt8):Bool:=l.all fun c=>jJ c||jg c
def lV:List UInt8→Bool
 | []=>false
 |c::l=>jJ c&&Di l&&decide (l.length+1≤32)
def ge(first:Bool):List UInt8→Bool
 | []=>true
 |c::l=>(jJ c||(!first&&jg c))&&ge false l
theorem WD:∀l,ge false l=Di l
 | []=>rfl
 |c::l=>by simp[ge,Di,WD l]
def ue(s:List UInt8):lV s=(ge true s&&(!(s==[])&&decide (s.length≤32))):=by
 cases s with
 |nil=>rfl
 |cons c l=>simp[lV,ge,WD,Fx]
def aCX{s:List UInt8}(hs:s.length≤maxLen){K:List Kt}{S:St}{Q:Fr→St→Prop}:∀(rest pre:List UInt8),s=pre++rest→∀(fr:Fr),
  fr 0=.str s→fr 6=.int .i64 s.length→fr 7=.int .i64 pre.length →
  (ge pre.isEmpty rest=true→∀fr',fr' 0=.str s→Ok (aJ T K fr' S) Q)→(ge pre.isEmpty rest=false→∀fr',fr' 2=.bool false→Q fr' S) →
  Ok (aJ T (.lp wO::.blk 0::K) fr S) Q:=by
 intro rest
 induction rest with
 |nil=>
  intro pre hp fr h0 h6 h7 k1 k2;rw[cI]at hp;subst hp;rw[af];simp[h0,h6,h7]
  exact k1 rfl _ (by simp[h0])
 |cons c rest ih=>
  intro pre hp fr h0 h6 h7 k1 k2;have hi:pre.length<s.length:=by rw[hp];simp
  have hc:s[pre.length]=c:=by simp[hp]
  unfold maxLen at hs;have hw:=dR (a:=pre.length) (by omega);have hn:(!pre.isEmpty)=decide (0<pre.length):=by cases pre<;>simp
  have he:(pre++[c]).isEmpty=false:=by simp
  have hL:∀fr',fr' 0=.str s→fr' 6=.int .i64 s.length→fr' 7=.int .i64 ((pre.length+1:Nat):Int)→(jJ c||(decide (0<pre.length)&&jg c))=true→Ok (aJ T (.lp wO::.blk 0::K) fr' S) Q:=by
   intro fr' g0 g6 g7 gl;refine ih (pre++[c]) (by simp[hp]) fr' g0 g6 (by simpa using g7) (fun h=>k1 ?_) (fun h=>k2 ?_)
   ·rw[he]at h;simp only[ge,hn,gl,h,sZ]
   ·rw[he]at h;simp only[ge,h,Fy]
  have hR:∀fr',fr' 2=.bool false→(jJ c||(decide (0<pre.length)&&jg c))=false→Q fr' S:=fun fr' g2 gl=>k2 (by simp only[ge,hn,gl,qP]) fr' g2;clear k1 k2;rw[af];simp -implicitDefEqProofs [h0,h6,h7,hi,hc]
  refine bX (fun a1=>bX (fun _=>hL _ (by simp[h0]) (by simp[h6]) (by simp[hw]) ?_) (fun a2=>absurd a1 (by simp[a2]))) (fun a1=>bX (fun a2=>bX (fun _=>hL _ (by simp[h0]) (by simp[h6]) (by simp[hw]) ?_) (fun a3=>absurd a2 (by simp[a3])))
   (fun a2=>bX (fun a3=>hL _ (by simp[h0]) (by simp[h6]) (by simp[hw]) ?_) (fun a3=>bX (fun a4=>hL _ (by simp[h0]) (by simp[h6]) (by simp[hw]) ?_) (fun a4=>cV (hR _ (by simp) ?_)))))
  ·simp[jJ,jg]at a1 ⊢;omega
  ·simp[jJ,jg]at a2 ⊢;omega
  ·simp[jJ,jg]at a3 ⊢;omega
  ·simp[jJ,jg]at a4 ⊢;omega
  ·simp[jJ,jg]at a1 a2 a3 a4 ⊢;omega
def aCY{s:List UInt8}(hs:s.length≤maxLen):aO T 121 [.str s] bk=some (.bool (lV s),bk):=by
 refine aW aCV rfl ?_;simp[tB];refine aCX hs s [] rfl _ (by simp) (by simp) (by simp) (fun h fr' g0=>?_) (fun h fr' g2=>?_)
 ·simp[g0,ue,show ge true s=true from h]
  congr 1;exact decide_eq_decide.2 (by omega)
 ·simp[g2,ue,show ge true s=false from h]
def aCZ{s:List UInt8}(hs:s.length≤maxLen){K:List Kt}{S:St}{Q:Fr→St→Prop}:∀(rest pre:List UInt8),s=pre++rest→∀(fr:Fr),
  fr 0=.str s→fr 3=.int .i64 pre.length →
  (ge pre.isEmpty rest=true→∀fr',fr' 0=.str s→Ok (aJ T K fr' S) Q)→(ge pre.isEmpty rest=false→∀fr',fr' 2=.bool false→Q fr' S) →
  Ok (aJ T (.lp wx::.blk 0::K) fr S) Q:=by
 intro rest
 induction rest with
 |nil=>
  intro pre hp fr h0 h3 k1 k2;rw[cI]at hp;subst hp;rw[af];simp[h0,h3]
  exact k1 rfl _ (by simp[h0])
 |cons c rest ih=>
  intro pre hp fr h0 h3 k1 k2;have hi:pre.length<s.length:=by rw[hp];simp
  have hc:s[pre.length]=c:=by simp[hp]
  unfold maxLen at hs;have hw:=dR (a:=pre.length) (by omega);have hn:(!pre.isEmpty)=decide (0<pre.length):=by cases pre<;>simp
  have hn0:pre=[]↔pre.length=0:=by cases pre<;>simp
  have he:(pre++[c]).isEmpty=false:=by simp
  have hL:∀fr',fr' 0=.str s→fr' 3=.int .i64 ((pre.length+1:Nat):Int)→(jJ c||(decide (0<pre.length)&&jg c))=true→Ok (aJ T (.lp wx::.blk 0::K) fr' S) Q:=by
   intro fr' g0 g3 gl;refine ih (pre++[c]) (by simp[hp]) fr' g0 (by simpa using g3) (fun h=>k1 ?_) (fun h=>k2 ?_)
   ·rw[he]at h;simp only[ge,hn,gl,h,sZ]
   ·rw[he]at h;simp only[ge,h,Fy]
  have hR:∀fr',fr' 2=.bool false→(jJ c||(decide (0<pre.length)&&jg c))=false→Q fr' S:=fun fr' g2 gl=>k2 (by simp only[ge,hn,gl,qP]) fr' g2;clear k1 k2;rw[af];simp -implicitDefEqProofs [h0,h3,hi,hc];refine bX (fun a1=>cV (hR _ (by simp) ?_)) (fun a1=>hL _ (by simp[h0]) (by simp[hw]) ?_)
  ·simp[jJ,jg,-List.length_eq_zero_iff]at a1 ⊢;omega
  ·simp[jJ,jg,-List.length_eq_zero_iff]at a1 ⊢;omega
def aC0{s:List UInt8}(hs:s.length≤maxLen):aO T 126 [.str s] bk=some (.bool (lV s),bk):=by
 refine aW aCW rfl ?_;simp[tJ];refine aCZ hs s [] rfl _ (by simp) (by simp) (fun h fr' g0=>?_) (fun h fr' g2=>?_)
 ·simp[g0,ue,show ge true s=true from h]
  congr 1;exact decide_eq_decide.2 (by omega)
 ·simp[g2,ue,show ge true s=false from h]
def aC1{s:List UInt8}(hs:s.length≤maxLen):eu T 121 [.str s]=some (.bool (lV s)):=iH (aCY hs) rfl rfl
def aC2{s:List UInt8}(hs:s.length≤maxLen):eu T 126 [.str s]=some (.bool (lV s)):=iH (aC0 hs) rfl rfl
def aC3:T.fn 40=some (.code tj):=rfl
def aC4:T.fn 98=some (.code z53):=rfl
abbrev bn:=List UInt8×List UInt8×Unit
def bt(x:bn):PV:=.agg [.str x.1,.str x.2.1]
@[simp]def uf(x:bn):(bt x).cells=[.str x.1,.str x.2.1]:=rfl
def eI(l:List bn)(i:Nat)(h:i<l.length):Nat:=
 if lV l[i].1=false then 8 else if l[i].2.1.isEmpty then 2 else if 64<l[i].2.1.length then 3 else
 if h0:0<i then(if(Op.bytesLess l[i].1 l[i-1].1||l[i].1==l[i-1].1)=true then 13 else 0)else 0
def gh(l:List bn)(i:Nat):Nat:=
 if h:i<l.length then(if eI l i h=0 then gh l (i+1)else eI l i h)else 0
termination_by l.length-i
def eV(l:List bn):Nat:=if 8<l.length then 3 else gh l 0
def aC5{l:List bn}{v:PV}(hv:bT 2 v (l.map bt))(hn:∀x∈l,x.1.length≤maxLen)(hl:l.length≤maxLen){K:List Kt}{Q:Fr→St→Prop}{S0:St}:∀(n i:Nat),l.length-i=n→i≤l.length→∀(fr:Fr) (S:St),
  fr 0=v→fr 8=v→fr 9=.int .i64 l.length→fr 10=.int .i64 i→aP S0 S→(gh l i=0→∀fr' S',aP S0 S'→Ok (aJ T K fr' S') Q) →
  (gh l i≠0→∀fr' S',aP S0 S'→fr' 2=.int .i64 (gh l i)→Q fr' S')→Ok (aJ T (.lp xx::.blk 0::K) fr S) Q:=by
 intro n
 induction n with
 |zero=>
  intro i hni hil fr S h0 h8 h9 h10 hg k1 k2;have hi:i=l.length:=by omega
  have hc:gh l i=0:=by rw[gh,dif_neg (by omega)]
  rw[af];simp -implicitDefEqProofs [h0,h8,h9,h10,hi]
  exact k1 hc _ _ hg
 |succ n ih=>
  intro i hni hil fr S h0 h8 h9 h10 hg k1 k2;have hi:i<l.length:=by omega
  have hget:=hv.get i (by simpa using hi) .i64;have hx:(l.map bt)[i]'(by simpa using hi)=bt l[i]:=by simp
  rw[hx,uf]at hget;have hpv:=aC1 (hn l[i] (jy hi));unfold maxLen at hl;have hw:=dR (a:=i) (by omega);have hpo:∀{a b:PV},ae true 2 [a,b]=some (.agg [a,b]):=fun {a b}=>rfl;have hp1:∀{a:PV} {m:List PV},ae false 1 (a::m)=some a:=fun {a m}=>by simp[ae]
  rw[gh,dif_pos hi]at k1 k2
  have hL:eI l i hi=0→∀fr' S',fr' 0=v→fr' 8=v→fr' 9=.int .i64 l.length→fr' 10=.int .i64 ((i+1:Nat):Int)→aP S0 S'→Ok (aJ T (.lp xx::.blk 0::K) fr' S') Q:=by
   intro hz fr' S' g0 g8 g9 g10 gg;rw[if_pos hz]at k1 k2;exact ih (i+1) (by omega) (by omega) fr' S' g0 g8 g9 g10 gg k1 k2
  have hR:∀(e:Nat),e≠0→eI l i hi=e→∀fr' S',fr' 2=.int .i64 e→aP S0 S'→Q fr' S':=by
   intro e he hz fr' S' g2 gg;rw[if_neg (by rw[hz];exact he),hz]at k2;exact k2 he fr' S' gg g2
  clear k1 k2 ih;by_cases hi0:0<i
  ·have hgetp:=hv.get (i-1) (by simp;omega) .i64;have hxp:(l.map bt)[i-1]'(by simp;omega)=bt l[i-1]:=by simp
   rw[hxp,uf]at hgetp;have hsub:IntKind.i64.wrap ((i:Int)-1)=((i-1:Nat):Int):=by rw[bJ]<;>omega
   rw[af];simp -implicitDefEqProofs [h0,h8,h9,h10,hi,hget,hpo,hp1,hpv,hi0,hgetp,hsub,aI,aR]
   refine bX (fun a1=>cV (hR 8 (by decide) ?_ _ _ (by simp) (hg.obj _))) (fun a1=>bX (fun a2=>cV (hR 2 (by decide) ?_ _ _ (by simp) (hg.obj _))) (fun a2=>bX (fun a3=>cV (hR 3 (by decide) ?_ _ _ (by simp) (hg.obj _)))
    (fun a3=>bX (fun a4=>cV (hR 13 (by decide) ?_ _ _ (by simp) (hg.obj _))) (fun a4=>hL ?_ _ _ (by simp[h0]) (by simp[h8]) (by simp[h9]) (by simp[hw]) (hg.obj _)))))
   ·rw[eI,if_pos (by simpa using a1)]
   ·rw[eI,if_neg (by simpa using a1),if_pos a2]
   ·rw[eI,if_neg (by simpa using a1),if_neg (by simp[a2]),if_pos (by simp at a3;omega)]
   ·rw[eI,if_neg (by simpa using a1),if_neg (by simp[a2]),if_neg (by simp at a3;omega),dif_pos hi0,if_pos a4]
   ·rw[eI,if_neg (by simpa using a1),if_neg (by simp[a2]),if_neg (by simp at a3;omega),dif_pos hi0,if_neg (by simp only[a4];decide)]
  ·rw[af];simp -implicitDefEqProofs [h0,h8,h9,h10,hi,hget,hpo,hp1,hpv,hi0,aI,aR]
   refine bX (fun a1=>cV (hR 8 (by decide) ?_ _ _ (by simp) (hg.obj _))) (fun a1=>bX (fun a2=>cV (hR 2 (by decide) ?_ _ _ (by simp) (hg.obj _))) (fun a2=>bX (fun a3=>cV (hR 3 (by decide) ?_ _ _ (by simp) (hg.obj _)))
    (fun a3=>hL ?_ _ _ (by simp[h0]) (by simp[h8]) (by simp[h9]) (by simp[hw]) (hg.obj _))))
   ·rw[eI,if_pos (by simpa using a1)]
   ·rw[eI,if_neg (by simpa using a1),if_pos a2]
   ·rw[eI,if_neg (by simpa using a1),if_neg (by simp[a2]),if_pos (by simp at a3;omega)]
   ·rw[eI,if_neg (by simpa using a1),if_neg (by simp[a2]),if_neg (by simp at a3;omega),dif_neg hi0]
def aC6{l:List bn}{v:PV}(hv:bT 2 v (l.map bt))(hn:∀x∈l,x.1.length≤maxLen)(hl:l.length≤maxLen){K:List Kt}{Q:Fr→St→Prop}{S0:St}:∀(n i:Nat),l.length-i=n→i≤l.length→∀(fr:Fr) (S:St),
  fr 0=v→fr 3=.int .i64 i→aP S0 S→(gh l i=0→∀fr' S',aP S0 S'→Ok (aJ T K fr' S') Q) →
  (gh l i≠0→∀fr' S',aP S0 S'→fr' 2=.int .i64 (gh l i)→Q fr' S')→Ok (aJ T (.lp wq::.blk 0::K) fr S) Q:=by
 intro n
 induction n with
 |zero=>
  intro i hni hil fr S h0 h3 hg k1 k2;have hi:i=l.length:=by omega
  have hc:gh l i=0:=by rw[gh,dif_neg (by omega)]
  rw[af];simp -implicitDefEqProofs [h0,h3,hi,hv.len]
  exact k1 hc _ _ hg
 |succ n ih=>
  intro i hni hil fr S h0 h3 hg k1 k2;have hi:i<l.length:=by omega
  have hget:=hv.get i (by simpa using hi) .i64;have hx:(l.map bt)[i]'(by simpa using hi)=bt l[i]:=by simp
  rw[hx,uf]at hget;have hpv:=aC2 (hn l[i] (jy hi));unfold maxLen at hl;have hw:=dR (a:=i) (by omega);have hpo:∀{a b:PV},ae true 2 [a,b]=some (.agg [a,b]):=fun {a b}=>rfl;have hp1:∀{a:PV} {m:List PV},ae false 1 (a::m)=some a:=fun {a m}=>by simp[ae]
  rw[gh,dif_pos hi]at k1 k2
  have hL:eI l i hi=0→∀fr' S',fr' 0=v→fr' 3=.int .i64 ((i+1:Nat):Int)→aP S0 S'→Ok (aJ T (.lp wq::.blk 0::K) fr' S') Q:=by
   intro hz fr' S' g0 g3 gg;rw[if_pos hz]at k1 k2;exact ih (i+1) (by omega) (by omega) fr' S' g0 g3 gg k1 k2
  have hR:∀(e:Nat),e≠0→eI l i hi=e→∀fr' S',fr' 2=.int .i64 e→aP S0 S'→Q fr' S':=by
   intro e he hz fr' S' g2 gg;rw[if_neg (by rw[hz];exact he),hz]at k2;exact k2 he fr' S' gg g2
  clear k1 k2 ih;by_cases hi0:0<i
  ·have hgetp:=hv.get (i-1) (by simp;omega) .i64;have hxp:(l.map bt)[i-1]'(by simp;omega)=bt l[i-1]:=by simp
   rw[hxp,uf]at hgetp;have hsub:IntKind.i64.wrap ((i:Int)-1)=((i-1:Nat):Int):=by rw[bJ]<;>omega
   rw[af];simp -implicitDefEqProofs [h0,h3,hi,hv.len,hget,hpo,hp1,hpv,hi0,hgetp,hsub,aI,aR]
   refine bX (fun a1=>cV (hR 8 (by decide) ?_ _ _ (by simp) hg)) (fun a1=>bX (fun a2=>cV (hR 2 (by decide) ?_ _ _ (by simp) hg)) (fun a2=>bX (fun a3=>cV (hR 3 (by decide) ?_ _ _ (by simp) hg))
    (fun a3=>bX (fun a4=>cV (hR 13 (by decide) ?_ _ _ (by simp) hg)) (fun a4=>hL ?_ _ _ (by simp[h0]) (by simp[hw]) hg))))
   ·rw[eI,if_pos (by simpa using a1)]
   ·rw[eI,if_neg (by simpa using a1),if_pos a2]
   ·rw[eI,if_neg (by simpa using a1),if_neg (by simp[a2]),if_pos (by simp at a3;omega)]
   ·rw[eI,if_neg (by simpa using a1),if_neg (by simp[a2]),if_neg (by simp at a3;omega),dif_pos hi0,if_pos a4]
   ·rw[eI,if_neg (by simpa using a1),if_neg (by simp[a2]),if_neg (by simp at a3;omega),dif_pos hi0,if_neg (by simp only[a4];decide)]
  ·rw[af];simp -implicitDefEqProofs [h0,h3,hi,hv.len,hget,hpo,hp1,hpv,hi0,aI,aR]
   refine bX (fun a1=>cV (hR 8 (by decide) ?_ _ _ (by simp) hg)) (fun a1=>bX (fun a2=>cV (hR 2 (by decide) ?_ _ _ (by simp) hg)) (fun a2=>bX (fun a3=>cV (hR 3 (by decide) ?_ _ _ (by simp) hg))
    (fun a3=>hL ?_ _ _ (by simp[h0]) (by simp[hw]) hg)))
   ·rw[eI,if_pos (by simpa using a1)]
   ·rw[eI,if_neg (by simpa using a1),if_pos a2]
   ·rw[eI,if_neg (by simpa using a1),if_neg (by simp[a2]),if_pos (by simp at a3;omega)]
   ·rw[eI,if_neg (by simpa using a1),if_neg (by simp[a2]),if_neg (by simp at a3;omega),dif_neg hi0]
def Dj{l:List bn}{v:PV}(hv:bT 2 v (l.map bt))(hn:∀x∈l,x.1.length≤maxLen)(hl:l.length≤maxLen)(S:St):aO T 40 [v] S=some (.int .i64 (eV l),S):=by
 refine aW aC3 rfl ?_;simp -implicitDefEqProofs [tj,hv.len];refine bX (fun a=>?_) (fun a=>?_)
 ·have h:eV l=3:=by rw[eV,if_pos (by simp at a;omega)]
  simp[h]
 ·have h:eV l=gh l 0:=by rw[eV,if_neg (by simp at a;omega)]
  refine aC5 hv hn hl l.length 0 (by omega) (by omega) _ S (by simp) (by simp) (by simp) (by simp) (aP.refl S) (fun hz fr' S' gg=>?_) (fun hz fr' S' gg g2=>?_)
  ·simp[gg,h,hz]
  ·simp[gg,g2,h]
def WE{l:List bn}{v:PV}(hv:bT 2 v (l.map bt))(hn:∀x∈l,x.1.length≤maxLen)(hl:l.length≤maxLen)(S:St):aO T 98 [v] S=some (.int .i64 (eV l),S):=by
 refine aW aC4 rfl ?_;simp -implicitDefEqProofs [z53,hv.len];refine bX (fun a=>?_) (fun a=>?_)
 ·have h:eV l=3:=by rw[eV,if_pos (by simp at a;omega)]
  simp[h]
 ·have h:eV l=gh l 0:=by rw[eV,if_neg (by simp at a;omega)]
  refine aC6 hv hn hl l.length 0 (by omega) (by omega) _ S (by simp) (by simp) (aP.refl S) (fun hz fr' S' gg=>?_) (fun hz fr' S' gg g2=>?_)
  ·simp[gg,h,hz]
  ·simp[gg,g2,h]
abbrev gm:Ty:=.st (.pair .str (.pair .str .unit))
def pX(x:(Ty.sl gm).den):List bn:=match x with|none=>[]|some q=>q.1
def aC7{x:(Ty.sl gm).den}(h:(Ty.sl gm).wf x):(pX x).length≤maxLen∧∀y∈pX x,y.1.length≤maxLen∧y.2.1.length≤maxLen:=by
 cases x with
 |none=>exact⟨Nat.zero_le _,fun y hy=>by simp[pX]at hy⟩
 |some q=>
  obtain⟨es,sp⟩:=q;exact⟨Nat.le_trans (Ag _ _) h.1,fun y hy=>⟨(h.2.1 y hy).1,(h.2.1 y hy).2.1⟩⟩
def aC8:T.fn 102=some (.code tC):=rfl
def aC9:T.fn 216=some (.code tI):=rfl
def aDa:T.fn 26=some (.code tx):=rfl
def fu(a b:List UInt8):Int:=if Op.bytesLess a b then -1 else if(Op.bytesLess a b||a==b)then 0 else 1
def io(x y:bn):Int:=if fu x.1 y.1=0 then fu x.2.1 y.2.1 else fu x.1 y.1
def ny:List bn→List bn→Option Int
 | [],_=>none
 |_::_,[]=>some 1
 |x::a,y::b=>if io x y=0 then ny a b else some (io x y)
def hJ(a b:List bn):Int:=match ny a b with|some c=>c|none=>if a.length<b.length then -1 else 0
def aDb(a b:List UInt8):eu T 216 [.str a,.str b]=some (.int .i64 (fu a b)):=by
 refine iH ?_ rfl rfl;refine aW aC9 rfl ?_;simp -implicitDefEqProofs [tI];refine bX (fun h=>?_) (fun h=>bX (fun h2=>?_) (fun h2=>?_))
 ·simp[fu,h]
 ·simp[fu,h]at h2 ⊢;simp[h2]
 ·simp[fu,h]at h2 ⊢;simp[h2]
def yp{l p r:List bn}{x:bn}{v:PV}(hv:bT 2 v (l.map bt))(hl:l=p++x::r):dQ 2 v (.int .i64 (p.length:Int))=some (.ref [.str x.1,.str x.2.1]):=by
 have h:p.length<(l.map bt).length:=by rw[hl];simp
 have:=hv.get p.length h .i64;have e:(l.map bt)[p.length]=bt x:=by simp[hl]
 rw[e,uf]at this;exact this
def jh:List bn→List bn→Option Int
 |x::a,y::b=>if io x y=0 then jh a b else some (io x y)
 |_,_=>none
theorem WF:∀a b:List bn,hJ a b=match jh a b with|some c=>c|none=>if a.length<b.length then -1 else if b.length<a.length then 1 else 0
 | [],[]=>rfl
 | [],y::b=>by simp[hJ,ny,jh]
 |x::a,[]=>by simp[hJ,ny,jh]
 |x::a,y::b=>by
  have ih:=WF a b;simp only[hJ,ny,jh]at ih ⊢;by_cases h:io x y=0
  ·simp only[h,if_true,bV,Nat.add_lt_add_iff_right];exact ih
  ·simp[h]
def aDc{l1 l2:List bn}{v1 v2:PV}(hv1:bT 2 v1 (l1.map bt))(hv2:bT 2 v2 (l2.map bt))(hl1:l1.length≤maxLen){K:List Kt}{Q:Fr→St→Prop}{S:St}:∀(r1 p1 r2 p2:List bn),l1=p1++r1→l2=p2++r2→p2.length=p1.length→∀(fr:Fr),
  fr 0=v1→fr 1=v2→fr 5=.int .i64 p1.length →
  (jh r1 r2=none→∀fr',fr' 0=v1→fr' 1=v2→Ok (aJ T K fr' S) Q)→(∀c,jh r1 r2=some c→∀fr',fr' 4=.int .i64 c→Q fr' S) →
  Ok (aJ T (.lp Ax::.blk 0::K) fr S) Q:=by
 intro r1
 induction r1 with
 |nil=>
  intro p1 r2 p2 e1 e2 ep fr h0 h1 h5 k1 k2;rw[cI]at e1;subst e1;have hl:=hv1.len;have hl2:=hv2.len;rw[List.length_map]at hl hl2;rw[af];simp -implicitDefEqProofs [h0,h1,h5,hl]
  exact k1 (by simp[jh]) _ (by simp[h0]) (by simp[h1])
 |cons x r1 ih=>
  intro p1 r2 p2 e1 e2 ep fr h0 h1 h5 k1 k2;have hlt:p1.length<l1.length:=by rw[e1];simp
  have g1:=yp hv1 e1;unfold maxLen at hl1;have hw:=dR (a:=p1.length) (by omega);have hp1:∀{a:PV} {m:List PV},ae false 1 (a::m)=some a:=fun {a m}=>by simp[ae]
  have hl:=hv1.len;have hl2:=hv2.len;rw[List.length_map]at hl hl2
  cases r2 with
  |nil=>
   have e2':l2.length=p1.length:=by rw[e2];simp[ep]
   rw[af];simp -implicitDefEqProofs [h0,h1,h5,hlt,hl,hl2,e2']
   exact k1 (by simp[jh]) _ (by simp[h0]) (by simp[h1])
  |cons y r2=>
   have hlt2:p1.length<l2.length:=by rw[e2];simp[ep]
   have g2:=yp hv2 e2;rw[ep]at g2;rw[af];simp -implicitDefEqProofs [h0,h1,h5,hlt,g1,hp1,hl,hl2,hlt2,g2,aDb];refine bX (fun a=>?_) (fun a=>bX (fun b=>?_) (fun b=>?_))
   ·have a':fu x.1 y.1≠0:=by simpa using a
    exact cV (k2 (fu x.1 y.1) (by simp[jh,io,a']) _ (by simp))
   ·have a':fu x.1 y.1=0:=by simpa using a
    have b':fu x.2.1 y.2.1≠0:=by simpa using b
    exact cV (k2 (fu x.2.1 y.2.1) (by simp[jh,io,a',b']) _ (by simp))
   ·have a':fu x.1 y.1=0:=by simpa using a
    have b':fu x.2.1 y.2.1=0:=by simpa using b
    have c':io x y=0:=by simp[io,a',b']
    refine ih (p1++[x]) r2 (p2++[y]) (by simp[e1]) (by simp[e2]) (by simp[ep]) _ (by simp[h0]) (by simp[h1]) (by simp[hw]) (fun hz=>k1 ?_) (fun c hz=>k2 c ?_)
    ·simpa[jh,c']using hz
    ·simpa[jh,c']using hz
def aDd{l1 l2:List bn}{v1 v2:PV}(hv1:bT 2 v1 (l1.map bt))(hv2:bT 2 v2 (l2.map bt))(hl1:l1.length≤maxLen)(S:St):aO T 102 [v1,v2] S=some (.int .i64 (hJ l1 l2),S):=by
 refine aW aC8 rfl ?_;simp -implicitDefEqProofs [tC];have e:=WF l1 l2;refine aDc hv1 hv2 hl1 l1 [] l2 [] rfl rfl rfl _ (by simp) (by simp) (by simp) (fun hz fr' g0 g1=>?_) (fun c hz fr' g4=>?_)
 ·rw[hz]at e;simp -implicitDefEqProofs [g0,g1,hv1.len,hv2.len];refine bX (fun a=>?_) (fun a=>bX (fun b=>?_) (fun b=>?_))
  ·have:hJ l1 l2 = -1:=by rw[e];simp at a;simp;omega
   simp[this]
  ·have:hJ l1 l2=1:=by rw[e];simp at a b;simp;omega
   simp[this]
  ·have:hJ l1 l2=0:=by rw[e];simp at a b;simp;omega
   simp[this]
 ·rw[hz]at e;simp[g4,e]
def aDe{l1 l2:List bn}{v1 v2:PV}(hv1:bT 2 v1 (l1.map bt))(hv2:bT 2 v2 (l2.map bt))(hl1:l1.length≤maxLen)(S:St):aO T 26 [v1,v2] S=some (.bool (hJ l1 l2==0),S):=by
 refine aW aDa rfl ?_;simp -implicitDefEqProofs [tx,aDd hv1 hv2 hl1]
def pY{a b:List UInt8}:Op.bytesLess a b=true↔a<b:=by
 induction a generalizing b with
 |nil=>cases b<;>simp[Op.bytesLess]
 |cons x a ih=>cases b with
  |nil=>simp[Op.bytesLess]
  |cons y b=>simp[Op.bytesLess,ih,Za]
def aDf(a b:List UInt8):fu b a = - fu a b:=by
 unfold fu;by_cases h:a<b
 ·have h1:¬b<a:=fun k=>ol a (GK h k);have h2:¬b=a:=fun k=>by rw[k]at h;exact ol a h
  have e1:Op.bytesLess a b=true:=pY.2 h;have e2:Op.bytesLess b a=false:=by rw[jw];exact fun k=>h1 (pY.1 k)
  simp[e1,e2,h2]
 ·by_cases h1:b<a
  ·have h2:¬a=b:=fun k=>by rw[k]at h1;exact ol b h1
   have e1:Op.bytesLess b a=true:=pY.2 h1;have e2:Op.bytesLess a b=false:=by rw[jw];exact fun k=>h (pY.1 k)
   simp[e1,e2,h2]
  ·have h2:a=b:=List.le_antisymm h1 h;subst h2;have e2:Op.bytesLess a a=false:=by rw[jw];exact fun k=>h (pY.1 k)
   simp[e2]
def Dl{a b:List UInt8}:fu a b=0↔a=b:=by
 unfold fu
 cases h:Op.bytesLess a b with
 |true=>
  simp;intro k;subst k
  exact ol a (pY.1 h)
 |false=>
  simp
def WG{x y:bn}:io x y=0↔x=y:=by
 unfold io;obtain⟨a,b,u⟩:=x;obtain⟨c,d,v⟩:=y;by_cases h:fu a c=0
 ·simp only[h,if_true,Dl];have:=Dl.1 h;subst this;simp
 ·simp only[h,if_false,false_iff];intro e;exact h (Dl.2 (by injection e))
def aDg(x y:bn)(a b:List bn):hJ (x::a) (y::b)=if io x y=0 then hJ a b else io x y:=by
 simp only[hJ,ny];by_cases h:io x y=0<;>simp[h]
@[simp]def aQj:hJ [] []=0:=rfl
@[simp]def aQk(y:bn)(b:List bn):hJ [] (y::b) = -1:=by simp[hJ,ny]
@[simp]def aQl(x:bn)(a:List bn):hJ (x::a) []=1:=by simp[hJ,ny]
theorem WH:∀{a b:List bn},hJ a b=0↔a=b
 | [],[]=>by simp
 | [],y::b=>by simp
 |x::a,[]=>by simp
 |x::a,y::b=>by
  rw[aDg];by_cases h:io x y=0
  ·rw[if_pos h,WH (a:=a) (b:=b)];have:=WG.1 h;subst this;simp
  ·simp only[h,if_false,kW];constructor
   ·intro e;exact absurd e (by simp)
   ·intro e;exact absurd (WG.2 e.1) h
def p1{a:PV}{m:List PV}:ae false 1 (a::m)=some a:=by simp[ae]
def p2{a b:PV}:ae true 2 [a,b]=some (.agg [a,b]):=rfl
@[simp]def aDh(x:bn):(bt x).free=true:=rfl
@[simp]def aDi(x:bn):(bt x).frz=bt x:=rfl
@[simp]def aQm(x:bn):(bt x).cells.all PV.one=true:=rfl
def Dm(l:List bn):PV.freeL (l.map bt)=true:=lY bt aDh l
def Do(l:List bn):PV.frzL (l.map bt)=l.map bt:=mb bt aDi l
def yq(l:List bn):∀e∈l.map bt,e.cells.length=2:=by
 intro e he;obtain⟨x,_,rfl⟩:=cD.1 he;rfl
structure ug(v:PV)(l:List bn):Prop where
 isl:bG 2 v (l.map bt)
 free:v.free=true
 frz:v.frz=v
def ug.reads{v:PV}{l:List bn}(h:ug v l):bT 2 v (l.map bt):=h.isl.reads
def WI{S0 S:St}{v:PV}{l:List bn}(ha:bB S0 2 S v (l.map bt)):ug (bo v (l.map bt)) l:=by
 refine⟨lZ ha (yq _),?_,?_⟩
 ·rcases ha.acc with⟨h,_⟩|⟨id,_,h,_⟩
  ·rw[h];rfl
  ·rw[h];simp[bo,PV.free,Dm]
 ·rcases ha.acc with⟨h,_⟩|⟨id,_,h,_⟩
  ·rw[h];rfl
  ·rw[h];simp[bo,PV.frz,Do]
theorem Dp(t:Ty)(h:∀x:t.den,1≤t.bulk x):∀l:List t.den,l.length≤(l.map t.bulk).sum
 | []=>aj _
 |x::l=>by
  have:=Dp t h l;have:=h x;simp only[bV,dS,GN];omega
def aDj(x:(Ty.sl gm).den):(pX x).length≤(Ty.sl gm).bulk x:=by
 cases x with
 |none=>exact Nat.zero_le _
 |some q=>
  obtain⟨es,sp⟩:=q;have h:es.length≤(es.map (Ty.bulk gm)).sum:=Dp gm (fun _=>Nat.succ_le_succ (Nat.zero_le _)) es;show es.length≤(es.map (Ty.bulk gm)).sum+(sp.map (Ty.bulk gm)).sum+1;omega
def nz(x:bn):Prop:=lV x.1=true∧x.2.1≠[]∧x.2.1.length≤64
def yr(l:List bn):Prop:=l.length≤8∧(∀x∈l,nz x)∧l.Pairwise (fun x y=>x.1<y.1)
def aDk{a b:List UInt8}:(Op.bytesLess b a||b==a)=false↔a<b:=by
 rw[←pY];have h:=aDf a b;unfold fu at h;cases p:Op.bytesLess a b<;>cases q:Op.bytesLess b a<;>simp[p,q]at h ⊢
 ·by_cases e:a=b
  ·simp[e]
  ·have e':¬b=a:=fun k=>e k.symm;simp[e,e']at h
 ·intro e;subst e;rw[p]at q;cases q
def yu{l:List bn}{i:Nat}(h:i<l.length):eI l i h=0↔nz l[i]∧(∀h0:0<i,l[i-1].1<l[i].1):=by
 unfold eI nz
 cases hn:lV l[i].1 with
 |false=>simp
 |true=>
  by_cases b:l[i].2.1=[]
  ·simp[b]
  ·have b':l[i].2.1.isEmpty=false:=by simpa using b
   by_cases c:64<l[i].2.1.length
   ·have c':¬l[i].2.1.length≤64:=by omega
    simp[b',c,c']
   ·have c':l[i].2.1.length≤64:=by omega
    rw[if_neg (by simp),b',if_neg (by simp),if_neg c];by_cases d:0<i
    ·rw[dif_pos d];have q:=aDk (a:=l[i-1].1) (b:=l[i].1)
     cases e:(Op.bytesLess l[i].1 l[i-1].1||l[i].1==l[i-1].1)with
     |true=>
      rw[e]at q;simp only[if_true];constructor
      ·intro k;cases k
      ·rintro⟨_,k⟩;have:=q.2 (k d)
       cases this
     |false=>
      rw[e]at q;simp only[cF,if_false,true_iff];exact⟨⟨trivial,b,c'⟩,fun _=>q.1 rfl⟩
    ·rw[dif_neg d];simp only[true_iff];exact⟨⟨trivial,b,c'⟩,fun h0=>absurd h0 d⟩
def aDl{l:List bn}:∀(n i:Nat),l.length-i=n→(gh l i=0↔∀j (h:j<l.length),i≤j→eI l j h=0):=by
 intro n
 induction n with
 |zero=>
  intro i hi;rw[gh,dif_neg (by omega)]
  exact⟨fun _ j h hj=>by omega,fun _=>rfl⟩
 |succ n ih=>
  intro i hi;rw[gh,dif_pos (by omega)];by_cases h0:eI l i (by omega)=0
  ·rw[if_pos h0,ih (i+1) (by omega)];constructor
   ·intro k j h hj;by_cases e:j=i
    ·subst e;exact h0
    ·exact k j h (by omega)
   ·intro k j h hj;exact k j h (by omega)
  ·rw[if_neg h0];exact⟨fun e=>absurd e h0,fun k=>absurd (k i (by omega) (aj _)) h0⟩
def mY{l:List bn}:eV l=0↔yr l:=by
 unfold eV yr;by_cases h8:8<l.length
 ·simp[h8];omega
 ·rw[if_neg h8,aDl l.length 0 rfl];have h8':l.length≤8:=by omega
  simp only[h8',true_and];constructor
  ·intro k;refine⟨fun x hx=>?_,?_⟩
   ·obtain⟨i,hi,rfl⟩:=List.getElem_of_mem hx;exact((yu hi).1 (k i hi (Nat.zero_le _))).1
   ·rw[Zh]
    have adj:∀d i j (hi:i<l.length) (hj:j<l.length),j=i+d+1→l[i].1<l[j].1:=by
     intro d
     induction d with
     |zero=>
      intro i j hi hj e;subst e
      exact((yu hj).1 (k _ hj (Nat.zero_le _))).2 (by omega)
     |succ d ih=>
      intro i j hi hj e;have h1:=ih i (j-1) hi (by omega) (by omega);have h2:=((yu hj).1 (k _ hj (Nat.zero_le _))).2 (by omega);exact GK h1 h2
    intro i j hi hj hij;exact adj (j-i-1) i j hi hj (by omega)
  ·rintro⟨k1,k2⟩ j h _;rw[yu h];rw[Zh]at k2;exact⟨k1 _ (jy h),fun h0=>k2 (j-1) j (by omega) h (by omega)⟩
end Ps
