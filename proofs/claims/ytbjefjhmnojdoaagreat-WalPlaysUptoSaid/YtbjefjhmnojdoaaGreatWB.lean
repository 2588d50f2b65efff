/- Rows: whether they may be, both. -/
import Derived.Test.YtbjefjhmnojdoaaGreatDefs
import Derived.Test.YtbjefjhmnojdoaaGreatLM
set_option linter.defProp false
namespace Ps
set_option linter.unusedSimpArgs false
set_option linter.unusedVariables false
open Go
def aK8:T.fn 318=some (.code z36):=rfl
def aK9:T.fn 282=some (.code qh):=rfl
def aLa:T.fn 260=some (.code tH):=rfl
def aLb:T.fn 329=some (.code tK):=rfl
def Yh:T.fn 154=some (.code z57):=rfl
def aLc:T.fn 275=some (.code z29):=rfl
def aLd:T.fn 281=some (.code ox):=rfl
def nV(l:List Int):List PV:=l.map fun(n:Int)=>PV.int .i64 n
def gS(l:List Int):(nV l).length=l.length:=by simp[nV]
def FO(l:List Int):PV.freeL (nV l)=true:=lY _ (fun _=>rfl) l
def FP(l:List Int):PV.frzL (nV l)=nV l:=mb _ (fun _=>rfl) l
def vg(l:List Int):∀e∈nV l,e.cells.length=1:=by
 intro e he;obtain⟨x,_,rfl⟩:=cD.1 he;rfl
def FQ(a b:List Int):nV (a++b)=nV a++nV b:=by simp[nV]
def jP{l p r:List Int}{n:Int}{v:PV}(hv:bT 1 v (nV l))(hl:l=p++n::r){k:IntKind}:dQ 1 v (.int k (p.length:Int))=some (.ref [.int .i64 n]):=by
 have hlt:p.length<(nV l).length:=by rw[gS,hl];simp
 have:=hv.get p.length hlt k;have e:(nV l)[p.length]=.int .i64 n:=by simp[nV,hl]
 rw[e]at this;exact this
def de(prev:Option Int):List Int→Nat
 | []=>0
 |n::l=>if n<0∨1099511627776<n then 2 else if(match prev with|some q=>decide (n≤q)|none=>false)then 13 else de (some n) l
def kR(prev:Option Int)(n:Int)(l:List Int):de prev (n::l)=if n<0∨1099511627776<n then 2 else if(match prev with|some q=>decide (n≤q)|none=>false)then 13 else de (some n) l:=rfl
def ec(l:List Int):Nat:=if 1024<l.length then 3 else de none l
def aLe{l:List Int}(hl:l.length≤1024){v:PV}(hv:bT 1 v (nV l)){K:List Kt}{Q:Fr→St→Prop}{S:St}:∀(r p:List Int) (fr:Fr),l=p++r →
  fr 0=v→fr 8=v→fr 9=.int .i64 l.length→fr 10=.int .i64 p.length →
  (∀fr',fr' 2=.int .i64 (de p.getLast? r)→Q fr' S)→(de p.getLast? r=0→∀fr',Ok (aJ T K fr' S) Q) →
  Ok (aJ T (.lp xy::.blk 0::K) fr S) Q:=by
 intro r
 induction r with
 |nil=>
  intro p fr hp h0 h8 h9 h10 k1 k2;rw[cI]at hp;subst hp;rw[af];simp -implicitDefEqProofs [h9,h10]
  exact k2 rfl _
 |cons n r ih=>
  intro p fr hp h0 h8 h9 h10 k1 k2;have hplt:p.length<l.length:=by rw[hp];simp
  have hlt:(p.length:Int)<(l.length:Int):=by omega
  have hg:=jP hv hp (k:=.i64);have hp1:ae false 1 [PV.int .i64 n]=some (.int .i64 n):=rfl;have hw:=dR (a:=p.length) (by omega);have hlast:(p++[n]).getLast?=some n:=by simp
  have hnext:de p.getLast? (n::r)=de (some n) r→∀fr':Fr,fr' 0=v→fr' 8=v→fr' 9=.int .i64 l.length→fr' 10=.int .i64 ((p++[n]).length:Nat)→Ok (aJ T (.lp xy::.blk 0::K) fr' S) Q:=by
   intro e fr' c0 c8 c9 c10;refine ih (p++[n]) fr' (by simp[hp]) c0 c8 c9 c10 (fun fr2 h2=>k1 fr2 (by rw[e];rw[hlast]at h2;exact h2)) (fun h2 fr2=>k2 (by rw[e];rw[hlast]at h2;exact h2) fr2)
  rw[af];by_cases hb:n<0∨1099511627776<n
  ·have hr:de p.getLast? (n::r)=2:=by rw[kR,if_pos hb]
   have hb':(decide (n<0)||decide (1099511627776<n))=true:=by simpa using hb
   simp -implicitDefEqProofs [h0,h8,h9,h10,hlt,hg,hp1];refine bX (fun _=>cV (k1 _ (by rw[hr];simp))) (fun q=>?_);rw[hb']at q;cases q
  ·have hb':(decide (n<0)||decide (1099511627776<n))=false:=by
    rw[mD];simp only[decide_eq_false_iff_not];omega
   rcases Zd p with hnil|⟨p0,z,hz⟩
   ·have hr:de p.getLast? (n::r)=de (some n) r:=by rw[kR,if_neg hb,hnil];rfl
    have hd0:¬0<p.length:=by rw[hnil];simp
    simp -implicitDefEqProofs [h0,h8,h9,h10,hlt,hg,hp1];refine bX (fun q=>?_) (fun _=>?_)
    ·rw[hb']at q;cases q
    ·simp -implicitDefEqProofs [h0,h8,h9,h10,hd0,hw];exact hnext hr _ (by simp[h0]) (by simp[h8]) (by simp[h9]) (by simp[hw])
   ·have hz':p=p0++[z]:=by simpa using hz
    have hlz:p.getLast?=some z:=by rw[hz'];simp
    have hd0:0<p.length:=by rw[hz'];simp
    have hwp:IntKind.i64.wrap ((p.length:Int)-1)=(p0.length:Int):=by
     rw[hz',List.length_append];simp only[bV,cT];rw[hz']at hplt;simp only[List.length_append,bV,cT]at hplt;rw[bJ (by omega) (by omega)];omega
    have hg0:=jP hv (show l=p0++z::(n::r)by rw[hp,hz'];simp) (k:=.i64);have hp2:ae false 1 [PV.int .i64 z]=some (.int .i64 z):=rfl;simp -implicitDefEqProofs [h0,h8,h9,h10,hlt,hg,hp1];refine bX (fun q=>?_) (fun _=>?_)
    ·rw[hb']at q;cases q
    ·simp -implicitDefEqProofs [h0,h8,h9,h10,hd0,hw,hwp,hg0,hp2];refine bX (fun q=>cV ?_) (fun q=>?_)
     ·have hq:n≤z:=by simpa using q
      have hr:de p.getLast? (n::r)=13:=by rw[kR,if_neg hb,hlz];simp[hq]
      exact k1 _ (by rw[hr];simp)
     ·have hq:¬n≤z:=by simpa using q
      have hr:de p.getLast? (n::r)=de (some n) r:=by rw[kR,if_neg hb,hlz];simp[hq]
      exact hnext hr _ (by simp[h0]) (by simp[h8]) (by simp[h9]) (by simp[hw])
def Yi{l:List Int}{v:PV}(hv:bT 1 v (nV l))(S:St):aO T 318 [v] S=some (.int .i64 (ec l),S):=by
 have hlen:=hv.len;rw[gS]at hlen;refine aW aK8 rfl ?_;by_cases hl:1024<l.length
 ·have hl':(1024:Int)<(l.length:Int):=by omega
  have hr:ec l=3:=by unfold ec;rw[if_pos hl]
  rw[hr];simp -implicitDefEqProofs [z36,hlen,hl']
 ·have hl':¬(1024:Int)<(l.length:Int):=by omega
  have hr:ec l=de none l:=by unfold ec;rw[if_neg hl]
  rw[hr];simp -implicitDefEqProofs [z36,hlen,hl'];refine aLe (by omega) hv l [] _ rfl (by simp) (by simp) (by simp) (by simp) (fun fr' h2=>?_) (fun h2 fr'=>?_)
  ·rw[ul,h2];exact ez (aP.refl S)
  ·have h2':de none l=0:=h2;rw[h2'];simp
def aLf{l:List Int}(hl:l.length≤1024){v:PV}(hv:bT 1 v (nV l)){K:List Kt}{Q:Fr→St→Prop}{S:St}:∀(r p:List Int) (fr:Fr),l=p++r →
  fr 0=v→fr 3=.int .i64 p.length →
  (∀fr',fr' 2=.int .i64 (de p.getLast? r)→Q fr' S)→(de p.getLast? r=0→∀fr',Ok (aJ T K fr' S) Q) →
  Ok (aJ T (.lp wt::.blk 0::K) fr S) Q:=by
 have hlen:=hv.len;rw[gS]at hlen;intro r
 induction r with
 |nil=>
  intro p fr hp h0 h3 k1 k2;rw[cI]at hp;subst hp;rw[af];simp -implicitDefEqProofs [h0,h3,hlen]
  exact k2 rfl _
 |cons n r ih=>
  intro p fr hp h0 h3 k1 k2;have hplt:p.length<l.length:=by rw[hp];simp
  have hlt:(p.length:Int)<(l.length:Int):=by omega
  have hg:=jP hv hp (k:=.i64);have hp1:ae false 1 [PV.int .i64 n]=some (.int .i64 n):=rfl;have hw:=dR (a:=p.length) (by omega);have hlast:(p++[n]).getLast?=some n:=by simp
  have hnext:de p.getLast? (n::r)=de (some n) r→∀fr':Fr,fr' 0=v→fr' 3=.int .i64 ((p++[n]).length:Nat)→Ok (aJ T (.lp wt::.blk 0::K) fr' S) Q:=by
   intro e fr' c0 c3;refine ih (p++[n]) fr' (by simp[hp]) c0 c3 (fun fr2 h2=>k1 fr2 (by rw[e];rw[hlast]at h2;exact h2)) (fun h2 fr2=>k2 (by rw[e];rw[hlast]at h2;exact h2) fr2)
  rw[af];by_cases hb:n<0∨1099511627776<n
  ·have hr:de p.getLast? (n::r)=2:=by rw[kR,if_pos hb]
   by_cases hn:n<0
   ·simp -implicitDefEqProofs [h0,h3,hlen,hlt,hg,hp1,hn];exact k1 _ (by rw[hr];simp)
   ·have hn2:1099511627776<n:=by omega
    simp -implicitDefEqProofs [h0,h3,hlen,hlt,hg,hp1,hn,hn2];exact k1 _ (by rw[hr];simp)
  ·have hn:¬n<0:=fun q=>hb (.inl q);have hn2:¬1099511627776<n:=fun q=>hb (.inr q);rcases Zd p with hnil|⟨p0,z,hz⟩
   ·have hr:de p.getLast? (n::r)=de (some n) r:=by rw[kR,if_neg hb,hnil];rfl
    have hd0:¬0<p.length:=by rw[hnil];simp
    simp -implicitDefEqProofs [h0,h3,hlen,hlt,hg,hp1,hn,hn2,hd0,hw];exact hnext hr _ (by simp[h0]) (by simp[hw])
   ·have hz':p=p0++[z]:=by simpa using hz
    have hlz:p.getLast?=some z:=by rw[hz'];simp
    have hd0:0<p.length:=by rw[hz'];simp
    have hwp:IntKind.i64.wrap ((p.length:Int)-1)=(p0.length:Int):=by
     rw[hz',List.length_append];simp only[bV,cT];rw[hz']at hplt;simp only[List.length_append,bV,cT]at hplt;rw[bJ (by omega) (by omega)];omega
    have hg0:=jP hv (show l=p0++z::(n::r)by rw[hp,hz'];simp) (k:=.i64);have hp2:ae false 1 [PV.int .i64 z]=some (.int .i64 z):=rfl;by_cases hq:n≤z
    ·have hr:de p.getLast? (n::r)=13:=by rw[kR,if_neg hb,hlz];simp[hq]
     simp -implicitDefEqProofs [h0,h3,hlen,hlt,hg,hp1,hn,hn2,hd0,hw,hwp,hg0,hp2,hq];exact k1 _ (by rw[hr];simp)
    ·have hr:de p.getLast? (n::r)=de (some n) r:=by rw[kR,if_neg hb,hlz];simp[hq]
     simp -implicitDefEqProofs [h0,h3,hlen,hlt,hg,hp1,hn,hn2,hd0,hw,hwp,hg0,hp2,hq];exact hnext hr _ (by simp[h0]) (by simp[hw])
def aLg{l:List Int}{v:PV}(hv:bT 1 v (nV l))(S:St):aO T 282 [v] S=some (.int .i64 (ec l),S):=by
 have hlen:=hv.len;rw[gS]at hlen;refine aW aK9 rfl ?_;by_cases hl:1024<l.length
 ·have hl':(1024:Int)<(l.length:Int):=by omega
  have hr:ec l=3:=by unfold ec;rw[if_pos hl]
  rw[hr];simp -implicitDefEqProofs [qh,hlen,hl']
 ·have hl':¬(1024:Int)<(l.length:Int):=by omega
  have hr:ec l=de none l:=by unfold ec;rw[if_neg hl]
  rw[hr];simp -implicitDefEqProofs [qh,hlen,hl'];refine aLf (by omega) hv l [] _ rfl (by simp) (by simp) (fun fr' h2=>?_) (fun h2 fr'=>?_)
  ·rw[ul,h2];exact ez (aP.refl S)
  ·have h2':de none l=0:=h2;rw[h2'];simp
def jQ(t v:Int):Bool:=decide (0≤t)&&decide (t≤1099511627776)&&decide (-1152921504606846976≤v)&&decide (v≤1152921504606846976)
def oX(t v:Int):PV:=.agg [.int .i64 t,.int .i64 v]
def aLh(t v:Int)(S:St):aO T 260 [oX t v] S=some (.bool (jQ t v),S):=by
 refine aW aLa rfl ?_;have hp1:∀(a:PV) (m:List PV),ae false 1 (a::m)=some a:=fun a m=>by simp[ae]
 simp -implicitDefEqProofs [tH,oX,aI,hp1,jQ]
def aLi(t v:Int)(S:St):aO T 329 [oX t v] S=some (.bool (jQ t v),S):=by
 refine aW aLb rfl ?_;have hp1:∀(a:PV) (m:List PV),ae false 1 (a::m)=some a:=fun a m=>by simp[ae]
 simp -implicitDefEqProofs [tK,oX,aI,hp1,jQ]
end Ps
set_option linter.defProp false
namespace Ps
set_option linter.unusedSimpArgs false
set_option linter.unusedVariables false
open Go
def ba(a:PV)(m:List PV):ae false 1 (a::m)=some a:=by simp[ae]
def jR(a b:PV)(m:List PV):ae true 2 (a::b::m)=some (.agg [a,b]):=by simp[ae]
def sO(a b c:PV)(m:List PV):ae true 3 (a::b::c::m)=some (.agg [a,b,c]):=by simp[ae]
def aLj(t v:Int)(tip:Option (Nat×Nat))(S:St):aO T 154 [.sl tip [oX t v] []] S=some (.int .i64 (if jQ t v then 0 else 11:Nat),S):=by
 have hm:=fun S=>aLh t v S;have hw1:IntKind.i64.wrap 1=1:=bJ (by omega) (by omega);unfold oX at hm ⊢
 cases hb:jQ t v with
 |true=>
  rw[hb]at hm;refine aW Yh rfl ?_;simp -implicitDefEqProofs [z57];rw[af];simp -implicitDefEqProofs [jR,ba,aI,aR,hm];rw[af];simp -implicitDefEqProofs [hw1]
  exact ez ((aP.refl S).obj _)
 |false=>
  rw[hb]at hm;refine aW Yh rfl ?_;simp -implicitDefEqProofs [z57];rw[af];simp -implicitDefEqProofs [jR,ba,aI,aR,hm];exact ez ((aP.refl S).obj _)
abbrev cg:=Int×Int×Int
def dC(x:cg):PV:=.agg [.int .i64 x.1,.int .i64 x.2.1,.int .i64 x.2.2]
def ky:List cg→Nat
 | []=>0
 |x::l=>if x.1<0∨1099511627776<x.1 then 2 else if jQ x.2.1 x.2.2=false then 11 else ky l
def hY(l:List cg):Nat:=if l.length=0∨64<l.length then 2 else ky l
def FS(x:cg)(l:List cg):ky (x::l)=if x.1<0∨1099511627776<x.1 then 2 else if jQ x.2.1 x.2.2=false then 11 else ky l:=rfl
def sP{l p r:List cg}{x:cg}{v:PV}(hv:bT 3 v (l.map dC))(hl:l=p++x::r){k:IntKind}:dQ 3 v (.int k (p.length:Int))=some (.ref [.int .i64 x.1,.int .i64 x.2.1,.int .i64 x.2.2]):=by
 have hlt:p.length<(l.map dC).length:=by rw[hl];simp
 have:=hv.get p.length hlt k;have e:(l.map dC)[p.length]=dC x:=by simp[hl]
 rw[e]at this;exact this
def aLk{l:List cg}(hl:l.length≤64){v:PV}(hv:bT 3 v (l.map dC)){S0:St}{K:List Kt}{Q:Fr→St→Prop}:∀(r p:List cg) (fr:Fr) (S:St),l=p++r→aP S0 S →
  fr 13=v→fr 14=.int .i64 l.length→fr 15=.int .i64 p.length →
  (∀fr' S',aP S0 S'→fr' 2=.int .i64 (ky r)→Q fr' S')→(ky r=0→∀fr' S',aP S0 S'→Ok (aJ T K fr' S') Q) →
  Ok (aJ T (.lp CG::.blk 0::K) fr S) Q:=by
 intro r
 induction r with
 |nil=>
  intro p fr S hp hg h13 h14 h15 k1 k2;rw[cI]at hp;subst hp;rw[af];simp -implicitDefEqProofs [h14,h15]
  exact k2 rfl _ S hg
 |cons x r ih=>
  intro p fr S hp hg h13 h14 h15 k1 k2;have hplt:p.length<l.length:=by rw[hp];simp
  have hlt:(p.length:Int)<(l.length:Int):=by omega
  have hget:=sP hv hp (k:=.i64);have hw:=dR (a:=p.length) (by omega);have hcons:=FS x r;have hsv:=aLj x.2.1 x.2.2;unfold oX at hsv;rw[af];by_cases hb:x.1<0∨1099511627776<x.1
  ·rw[if_pos hb]at hcons;have hb':(decide (x.1<0)||decide (1099511627776<x.1))=true:=by simpa using hb
   simp -implicitDefEqProofs [h13,h14,h15,hlt,hget,ba,jR,sO,aI,aR];refine bX (fun _=>cV (k1 _ _ (hg.obj _) (by rw[hcons];simp))) (fun q=>?_);rw[hb']at q;cases q
  ·rw[if_neg hb]at hcons
   have hb':(decide (x.1<0)||decide (1099511627776<x.1))=false:=by
    rw[mD];simp only[decide_eq_false_iff_not];omega
   simp -implicitDefEqProofs [h13,h14,h15,hlt,hget,ba,jR,sO,aI,aR];refine bX (fun q=>?_) (fun _=>?_)
   ·rw[hb']at q;cases q
   ·cases hm:jQ x.2.1 x.2.2 with
    |false=>
     rw[hm]at hcons;rw[if_pos rfl]at hcons;have hsv':∀tip S,aO T 154 [.sl tip [.agg [.int .i64 x.2.1,.int .i64 x.2.2]] []] S=some (.int .i64 11,S):=fun tip S=>by rw[hsv tip S,hm];rfl
     simp -implicitDefEqProofs [h13,h14,h15,ba,jR,sO,aI,bL,bR,hsv']
     exact k1 _ _ ((hg.obj _).arr _) (by rw[hcons];simp)
    |true=>
     rw[hm]at hcons;rw[if_neg (by decide)]at hcons;have hsv':∀tip S,aO T 154 [.sl tip [.agg [.int .i64 x.2.1,.int .i64 x.2.2]] []] S=some (.int .i64 0,S):=fun tip S=>by rw[hsv tip S,hm];rfl
     simp -implicitDefEqProofs [h13,h14,h15,ba,jR,sO,aI,bL,bR,hsv',hw];refine ih (p++[x]) _ _ (by simp[hp]) ((hg.obj _).arr _) (by simp[h13]) (by simp[h14]) (by simp[hw]) (fun fr' S' g1 g2=>k1 fr' S' g1 (by rw[hcons];exact g2)) (fun g1 fr' S' g2=>k2 (by rw[hcons];exact g1) fr' S' g2)
def aLl{l:List cg}{v:PV}(hv:bT 3 v (l.map dC))(S:St):aO T 275 [v] S=some (.int .i64 (hY l),S):=by
 have hlen:=hv.len;rw[List.length_map]at hlen;refine aW aLc rfl ?_;by_cases hl:l.length=0∨64<l.length
 ·have hr:hY l=2:=by unfold hY;rw[if_pos hl]
  rw[hr]
  have hb:(decide ((l.length:Int)<1)||decide (64<(l.length:Int)))=true:=by
   rw[jW];simp only[decide_eq_true_eq];omega
  by_cases h1:(l.length:Int)<1
  ·simp -implicitDefEqProofs [z29,hlen,h1]
  ·have h2:(64:Int)<(l.length:Int):=by omega
   simp -implicitDefEqProofs [z29,hlen,h1,h2]
 ·have hr:hY l=ky l:=by unfold hY;rw[if_neg hl]
  rw[hr];have h1:¬(l.length:Int)<1:=by omega
  have h2:¬(64:Int)<(l.length:Int):=by omega
  simp -implicitDefEqProofs [z29,hlen,h1,h2];refine aLk (S0:=S) (by omega) hv l [] _ S rfl (aP.refl S) (by simp) (by simp) (by simp) (fun fr' S' g h2=>?_) (fun h2 fr' S' g=>?_)
  ·rw[ul,h2];exact ez g
  ·rw[h2];simp -implicitDefEqProofs;exact ez g
def aLm{l:List cg}(hl:l.length≤64){v:PV}(hv:bT 3 v (l.map dC)){K:List Kt}{Q:Fr→St→Prop}{S:St}:∀(r p:List cg) (fr:Fr),l=p++r →
  fr 0=v→fr 3=.int .i64 p.length →
  (∀fr',fr' 2=.int .i64 (ky r)→Q fr' S)→(ky r=0→∀fr',Ok (aJ T K fr' S) Q) →
  Ok (aJ T (.lp BA::.blk 0::K) fr S) Q:=by
 have hlen:=hv.len;rw[List.length_map]at hlen;intro r
 induction r with
 |nil=>
  intro p fr hp h0 h3 k1 k2;rw[cI]at hp;subst hp;rw[af];simp -implicitDefEqProofs [h0,h3,hlen]
  exact k2 rfl _
 |cons x r ih=>
  intro p fr hp h0 h3 k1 k2;have hplt:p.length<l.length:=by rw[hp];simp
  have hlt:(p.length:Int)<(l.length:Int):=by omega
  have hget:=sP hv hp (k:=.i64);have hw:=dR (a:=p.length) (by omega);have hcons:=FS x r;have hm:=aLi x.2.1 x.2.2 S;unfold oX at hm;rw[af];by_cases hb:x.1<0∨1099511627776<x.1
  ·rw[if_pos hb]at hcons;by_cases hn:x.1<0
   ·simp -implicitDefEqProofs [h0,h3,hlen,hlt,hget,ba,hn];exact k1 _ (by rw[hcons];simp)
   ·have hn2:1099511627776<x.1:=by omega
    simp -implicitDefEqProofs [h0,h3,hlen,hlt,hget,ba,hn,hn2];exact k1 _ (by rw[hcons];simp)
  ·rw[if_neg hb]at hcons;have hn:¬x.1<0:=fun q=>hb (.inl q);have hn2:¬1099511627776<x.1:=fun q=>hb (.inr q)
   cases hmb:jQ x.2.1 x.2.2 with
   |false=>
    rw[hmb]at hcons hm;rw[if_pos rfl]at hcons;simp -implicitDefEqProofs [h0,h3,hlen,hlt,hget,ba,jR,hn,hn2,hm]
    exact k1 _ (by rw[hcons];simp)
   |true=>
    rw[hmb]at hcons hm;rw[if_neg (by decide)]at hcons;simp -implicitDefEqProofs [h0,h3,hlen,hlt,hget,ba,jR,hn,hn2,hm,hw];exact ih (p++[x]) _ (by simp[hp]) (by simp[h0]) (by simp[hw]) (fun fr' g2=>k1 fr' (by rw[hcons];exact g2)) (fun g1 fr'=>k2 (by rw[hcons];exact g1) fr')
def aLn{l:List cg}{v:PV}(hv:bT 3 v (l.map dC))(S:St):aO T 281 [v] S=some (.int .i64 (hY l),S):=by
 have hlen:=hv.len;rw[List.length_map]at hlen;refine aW aLd rfl ?_;by_cases hl:l.length=0∨64<l.length
 ·have hr:hY l=2:=by unfold hY;rw[if_pos hl]
  rw[hr];by_cases h1:l.length=0
  ·have h1':cz false v=some (.int .i64 0):=by rw[hlen,h1];rfl
   simp -implicitDefEqProofs [ox,h1']
  ·have h1':((l.length:Int)==0)=false:=by simpa using h1
   have h2:(64:Int)<(l.length:Int):=by omega
   simp -implicitDefEqProofs [ox,hlen,h1',h2]
 ·have hr:hY l=ky l:=by unfold hY;rw[if_neg hl]
  rw[hr]
  have h1':((l.length:Int)==0)=false:=by
   have:¬(l.length:Int)=0:=by omega
   simpa using this
  have h2:¬(64:Int)<(l.length:Int):=by omega
  simp -implicitDefEqProofs [ox,hlen,h1',h2];refine aLm (by omega) hv l [] _ rfl (by simp) (by simp) (fun fr' h2=>?_) (fun h2 fr'=>?_)
  ·rw[ul,h2];exact ez (aP.refl S)
  ·rw[h2];simp
structure bq where
 kind:Int
 labs:List bn
 rows:List cg
 ids:List Int
 low:Int
 high:Int
structure dG(r:bq)(cs:List PV):Prop where
 ex:∃vl vr vi,cs=[.int .i64 r.kind,vl,vr,vi,.int .i64 r.low,.int .i64 r.high]∧bG 2 vl (r.labs.map bt)∧bG 3 vr (r.rows.map dC)∧bG 1 vi (nV r.ids)
 lens:r.labs.length≤maxLen∧r.rows.length≤maxLen∧r.ids.length≤maxLen∧∀x∈r.labs,x.1.length≤maxLen
def qG(r:bq):Nat:=if ec r.ids≠0 then ec r.ids else if r.ids.length=0 then 2 else if r.low<0∨1099511627776<r.high then 11 else if r.high<r.low then 13 else 0
def cH(r:bq):Nat:=
 if r.kind=1∧r.rows.length=0∧r.ids.length=0∧r.low=0∧r.high=0 then eV r.labs else
 if r.kind=2∧r.labs.length=0∧r.ids.length=0∧r.low=0∧r.high=0 then hY r.rows else
 if r.kind=3∧r.labs.length=0∧r.rows.length=0 then qG r else 2
def aLo:T.fn 276=some (.code pH):=rfl
def aLp:T.fn 179=some (.code nL):=rfl
def aLq:T.fn 183=some (.code z46):=rfl
def kz{sz:Nat}{v:PV}{es:List PV}(h:bG sz v es):v.one=true:=by
 rcases h with⟨rfl,_⟩|⟨tip,sp,rfl,_⟩<;>rfl
def jk{k a b:Int}{vl vr vi:PV}{s1 s2 s3:Nat}{e1 e2 e3:List PV}(h1:bG s1 vl e1)(h2:bG s2 vr e2)(h3:bG s3 vi e3):([.int .i64 k,vl,vr,vi,.int .i64 a,.int .i64 b]:List PV).all PV.one=true:=by
 have hi:∀(k:IntKind) n,(PV.int k n).one=true:=fun _ _=>rfl;simp only[mq,List.all_nil,kz h1,kz h2,kz h3,hi,sZ]
def aLr{r:bq}{cs:List PV}(h:dG r cs)(S:St):aO T 276 [.agg cs] S=some (.int .i64 (qG r),S):=by
 obtain⟨⟨vl,vr,vi,rfl,h1,h2,h3⟩,hlens⟩:=h;have hp:=Yi h3.reads S;have hl:=h3.len;rw[gS]at hl;have hal:([.int .i64 r.kind,vl,vr,vi,.int .i64 r.low,.int .i64 r.high]:List PV).all PV.one=true:=jk h1 h2 h3;refine aW aLo rfl ?_;simp -implicitDefEqProofs [-List.all_eq_true,pH,hal,aI,ba,hp,hl];have dn:qG r=if ec r.ids≠0 then ec r.ids else if r.ids.length=0 then 2 else if r.low<0∨1099511627776<r.high then 11 else if r.high<r.low then 13 else 0:=rfl
 refine bX (fun q=>cV ?_) (fun q=>bX (fun q2=>cV ?_) (fun q2=>bX (fun q3=>cV ?_) (fun q3=>bX (fun q4=>cV ?_) (fun q4=>cV ?_))))
 ·rw[if_pos (by simpa using q)]at dn;rw[dn];simp
 ·rw[if_neg (by simpa using q),if_pos (by simpa using q2)]at dn;rw[dn];simp
 ·rw[if_neg (by simpa using q),if_neg (by simpa using q2),if_pos (by simpa using q3)]at dn;rw[dn];simp
 ·rw[if_neg (by simpa using q),if_neg (by simpa using q2),if_neg (by simpa using q3),if_pos (by simpa using q4)]at dn;rw[dn];simp
 ·rw[if_neg (by simpa using q),if_neg (by simpa using q2),if_neg (by simpa using q3),if_neg (by simpa using q4)]at dn;rw[dn];simp
def AF{r:bq}{cs:List PV}(h:dG r cs)(S:St):aO T 179 [.agg cs] S=some (.int .i64 (cH r),S):=by
 have hd:=fun S=>aLr h S;obtain⟨⟨vl,vr,vi,rfl,h1,h2,h3⟩,hlens⟩:=h;have hc:=fun S=>Dj h1.reads hlens.2.2.2 hlens.1 S;have hr:=fun S=>aLl h2.reads S;have l1:=h1.len;have l2:=h2.len;have l3:=h3.len;rw[List.length_map]at l1 l2;rw[gS]at l3;have hal:([.int .i64 r.kind,vl,vr,vi,.int .i64 r.low,.int .i64 r.high]:List PV).all PV.one=true:=jk h1 h2 h3;have pt5:∀(a b c d e:PV),ae true 5 [a,b,c,d,e]=some (.agg [a,b,c,d,e]):=fun a b c d e=>by simp[ae]
 have eS:∀(a b c d e f:PV),ae true 6 [a,b,c,d,e,f]=some (.agg [a,b,c,d,e,f]):=fun a b c d e f=>by simp[ae]
 have dn:cH r=if r.kind=1∧r.rows.length=0∧r.ids.length=0∧r.low=0∧r.high=0 then eV r.labs else
  if r.kind=2∧r.labs.length=0∧r.ids.length=0∧r.low=0∧r.high=0 then hY r.rows else
  if r.kind=3∧r.labs.length=0∧r.rows.length=0 then qG r else 2:=rfl
 refine aW aLp rfl ?_;by_cases k1:r.kind=1
 ·have b1:(r.kind==1)=true:=by simpa using k1
  have b2:(r.kind==2)=false:=by rw[k1];rfl
  have b3:(r.kind==3)=false:=by rw[k1];rfl
  have n2:¬r.kind=2:=by omega
  have n3:¬r.kind=3:=by omega
  simp -implicitDefEqProofs [-List.all_eq_true,nL,hal,aI,aQ,bK,aR,ba,pt5,l1,l2,l3,hc,hr,hd,eS,dy,iC,b1,b2,b3];refine bX (fun q=>cV ?_) (fun q=>cV ?_)
  ·rw[if_pos (by simpa[k1]using q)]at dn;rw[dn];simp -implicitDefEqProofs;exact ez ((aP.refl S).obj _)
  ·rw[if_neg (by simpa[k1]using q),if_neg (fun z=>n2 z.1),if_neg (fun z=>n3 z.1)]at dn;rw[dn];simp -implicitDefEqProofs;exact ez ((aP.refl S).obj _)
 by_cases k2:r.kind=2
 ·have b1:(r.kind==1)=false:=by simpa using k1
  have b2:(r.kind==2)=true:=by simpa using k2
  have b3:(r.kind==3)=false:=by rw[k2];rfl
  have n3:¬r.kind=3:=by omega
  simp -implicitDefEqProofs [-List.all_eq_true,nL,hal,aI,aQ,bK,aR,ba,pt5,l1,l2,l3,hc,hr,hd,eS,dy,iC,b1,b2,b3];refine bX (fun q=>cV ?_) (fun q=>cV ?_)
  ·rw[if_neg (fun z=>k1 z.1),if_pos (by simpa[k2]using q)]at dn;rw[dn];simp -implicitDefEqProofs;exact ez ((aP.refl S).obj _)
  ·rw[if_neg (fun z=>k1 z.1),if_neg (by simpa[k2]using q),if_neg (fun z=>n3 z.1)]at dn;rw[dn];simp -implicitDefEqProofs;exact ez ((aP.refl S).obj _)
 by_cases k3:r.kind=3
 ·have b1:(r.kind==1)=false:=by simpa using k1
  have b2:(r.kind==2)=false:=by simpa using k2
  have b3:(r.kind==3)=true:=by simpa using k3
  simp -implicitDefEqProofs [-List.all_eq_true,nL,hal,aI,aQ,bK,aR,ba,pt5,l1,l2,l3,hc,hr,hd,eS,dy,iC,b1,b2,b3];refine bX (fun q=>cV ?_) (fun q=>cV ?_)
  ·rw[if_neg (fun z=>k1 z.1),if_neg (fun z=>k2 z.1),if_pos (by simpa[k3]using q)]at dn;rw[dn];simp -implicitDefEqProofs;exact ez ((aP.refl S).obj _)
  ·rw[if_neg (fun z=>k1 z.1),if_neg (fun z=>k2 z.1),if_neg (by simpa[k3]using q)]at dn;rw[dn];simp -implicitDefEqProofs;exact ez ((aP.refl S).obj _)
 ·have b1:(r.kind==1)=false:=by simpa using k1
  have b2:(r.kind==2)=false:=by simpa using k2
  have b3:(r.kind==3)=false:=by simpa using k3
  simp -implicitDefEqProofs [-List.all_eq_true,nL,hal,aI,aQ,bK,aR,ba,pt5,l1,l2,l3,hc,hr,hd,eS,dy,iC,b1,b2,b3];rw[if_neg (fun z=>k1 z.1),if_neg (fun z=>k2 z.1),if_neg (fun z=>k3 z.1)]at dn;rw[dn];simp -implicitDefEqProofs;exact ez ((aP.refl S).obj _)
def aLs{r:bq}:cH r=if r.kind<1∨3<r.kind∨(r.kind≠1∧0<r.labs.length)∨(r.kind≠2∧0<r.rows.length)∨(r.kind≠3∧(0<r.ids.length∨r.low≠0∨r.high≠0))then 2 else if r.kind=1 then eV r.labs else if r.kind=2 then hY r.rows else qG r:=by
 unfold cH;by_cases k1:r.kind=1
 ·by_cases q:r.rows.length=0∧r.ids.length=0∧r.low=0∧r.high=0
  ·rw[if_pos ⟨k1,q⟩,if_neg (by omega),if_pos k1]
  ·rw[if_neg (fun z=>q z.2),if_neg (by omega),if_neg (by omega),if_pos (by omega)]
 by_cases k2:r.kind=2
 ·by_cases q:r.labs.length=0∧r.ids.length=0∧r.low=0∧r.high=0
  ·rw[if_neg (fun z=>k1 z.1),if_pos ⟨k2,q⟩,if_neg (by omega),if_neg k1,if_pos k2]
  ·rw[if_neg (fun z=>k1 z.1),if_neg (fun z=>q z.2),if_neg (by omega),if_pos (by omega)]
 by_cases k3:r.kind=3
 ·by_cases q:r.labs.length=0∧r.rows.length=0
  ·rw[if_neg (fun z=>k1 z.1),if_neg (fun z=>k2 z.1),if_pos ⟨k3,q⟩,if_neg (by omega),if_neg k1,if_neg k2]
  ·rw[if_neg (fun z=>k1 z.1),if_neg (fun z=>k2 z.1),if_neg (fun z=>q z.2),if_pos (by omega)]
 ·rw[if_neg (fun z=>k1 z.1),if_neg (fun z=>k2 z.1),if_neg (fun z=>k3 z.1),if_pos (by omega)]
set_option maxRecDepth 4000 in
def Yj{r:bq}{cs:List PV}(h:dG r cs)(S:St):aO T 183 [.agg cs] S=some (.int .i64 (cH r),S):=by
 have dn:=aLs (r:=r);obtain⟨⟨vl,vr,vi,rfl,h1,h2,h3⟩,hlens⟩:=h;have hc:=fun S=>WE h1.reads hlens.2.2.2 hlens.1 S;have hr:=fun S=>aLn h2.reads S;have hp:=fun S=>aLg h3.reads S;have l1:=h1.len;have l2:=h2.len;have l3:=h3.len;rw[List.length_map]at l1 l2;rw[gS]at l3;have hal:([.int .i64 r.kind,vl,vr,vi,.int .i64 r.low,.int .i64 r.high]:List PV).all PV.one=true:=jk h1 h2 h3;have dd:qG r=if ec r.ids≠0 then ec r.ids else if r.ids.length=0 then 2 else if r.low<0∨1099511627776<r.high then 11 else if r.high<r.low then 13 else 0:=rfl
 refine aW aLq rfl ?_;by_cases k1:r.kind=1
 ·have b1:(r.kind==1)=true:=by rw[k1];rfl
  have b2:(r.kind==2)=false:=by rw[k1];rfl
  have b3:(r.kind==3)=false:=by rw[k1];rfl
  have b4:decide (r.kind<1)=false:=by rw[k1];rfl
  have b5:decide (3<r.kind)=false:=by rw[k1];rfl
  have n1:(r.kind != 1)=false:=by rw[k1];rfl
  have n2:(r.kind != 2)=true:=by rw[k1];rfl
  have n3:(r.kind != 3)=true:=by rw[k1];rfl
  simp -implicitDefEqProofs [-List.all_eq_true,z46,hal,aI,ba,l1,l2,l3,hc,hr,hp,b1,b2,b3,b4,b5,n1,n2,n3];refine bX (fun q=>cV ?_) (fun q=>cV ?_)
  ·simp only[jW,decide_eq_true_eq,bne_iff_ne]at q;rw[if_pos (by omega)]at dn;rw[dn];simp -implicitDefEqProofs;try exact ez (aP.refl S)
  ·simp only[mD,decide_eq_false_iff_not,bne_eq_false_iff_eq]at q;rw[if_neg (by omega),if_pos k1]at dn;rw[dn];simp -implicitDefEqProofs;try exact ez (aP.refl S)
 by_cases k2:r.kind=2
 ·have b1:(r.kind==1)=false:=by rw[k2];rfl
  have b2:(r.kind==2)=true:=by rw[k2];rfl
  have b3:(r.kind==3)=false:=by rw[k2];rfl
  have b4:decide (r.kind<1)=false:=by rw[k2];rfl
  have b5:decide (3<r.kind)=false:=by rw[k2];rfl
  have n1:(r.kind != 1)=true:=by rw[k2];rfl
  have n2:(r.kind != 2)=false:=by rw[k2];rfl
  have n3:(r.kind != 3)=true:=by rw[k2];rfl
  simp -implicitDefEqProofs [-List.all_eq_true,z46,hal,aI,ba,l1,l2,l3,hc,hr,hp,b1,b2,b3,b4,b5,n1,n2,n3];refine bX (fun q=>cV ?_) (fun q=>cV ?_)
  ·simp only[jW,decide_eq_true_eq,bne_iff_ne]at q;rw[if_pos (by omega)]at dn;rw[dn];simp -implicitDefEqProofs;try exact ez (aP.refl S)
  ·simp only[mD,decide_eq_false_iff_not,bne_eq_false_iff_eq]at q;rw[if_neg (by omega),if_neg k1,if_pos k2]at dn;rw[dn];simp -implicitDefEqProofs;try exact ez (aP.refl S)
 by_cases k3:r.kind=3
 ·have b1:(r.kind==1)=false:=by rw[k3];rfl
  have b2:(r.kind==2)=false:=by rw[k3];rfl
  have b3:(r.kind==3)=true:=by rw[k3];rfl
  have b4:decide (r.kind<1)=false:=by rw[k3];rfl
  have b5:decide (3<r.kind)=false:=by rw[k3];rfl
  have n1:(r.kind != 1)=true:=by rw[k3];rfl
  have n2:(r.kind != 2)=true:=by rw[k3];rfl
  have n3:(r.kind != 3)=false:=by rw[k3];rfl
  simp -implicitDefEqProofs [-List.all_eq_true,z46,hal,aI,ba,l1,l2,l3,hc,hr,hp,b1,b2,b3,b4,b5,n1,n2,n3];refine bX (fun q=>cV ?_) (fun q0=>bX (fun q=>cV ?_) (fun q=>bX (fun q2=>cV ?_) (fun q2=>bX (fun q3=>cV ?_) (fun q3=>bX (fun q4=>cV ?_) (fun q4=>cV ?_)))))
  ·simp only[jW,decide_eq_true_eq,bne_iff_ne]at q;rw[if_pos (by omega)]at dn;rw[dn];simp -implicitDefEqProofs;try exact ez (aP.refl S)
  ·simp only[mD,decide_eq_false_iff_not,bne_eq_false_iff_eq]at q0;rw[if_neg (by omega),if_neg k1,if_neg k2]at dn;rw[if_pos (by simpa using q)]at dd;rw[dn,dd];simp -implicitDefEqProofs;try exact ez (aP.refl S)
  ·simp only[mD,decide_eq_false_iff_not,bne_eq_false_iff_eq]at q0;rw[if_neg (by omega),if_neg k1,if_neg k2]at dn;rw[if_neg (by simpa using q),if_pos (by simpa using q2)]at dd;rw[dn,dd];simp -implicitDefEqProofs;try exact ez (aP.refl S)
  ·simp only[mD,decide_eq_false_iff_not,bne_eq_false_iff_eq]at q0;rw[if_neg (by omega),if_neg k1,if_neg k2]at dn;rw[if_neg (by simpa using q),if_neg (by simpa using q2),if_pos (by simpa using q3)]at dd;rw[dn,dd];simp -implicitDefEqProofs;try exact ez (aP.refl S)
  ·simp only[mD,decide_eq_false_iff_not,bne_eq_false_iff_eq]at q0;rw[if_neg (by omega),if_neg k1,if_neg k2]at dn;rw[if_neg (by simpa using q),if_neg (by simpa using q2),if_neg (by simpa using q3),if_pos (by simpa using q4)]at dd;rw[dn,dd];simp -implicitDefEqProofs;try exact ez (aP.refl S)
  ·simp only[mD,decide_eq_false_iff_not,bne_eq_false_iff_eq]at q0;rw[if_neg (by omega),if_neg k1,if_neg k2]at dn;rw[if_neg (by simpa using q),if_neg (by simpa using q2),if_neg (by simpa using q3),if_neg (by simpa using q4)]at dd;rw[dn,dd];simp -implicitDefEqProofs;try exact ez (aP.refl S)
 ·have n1:(r.kind != 1)=true:=by simpa using k1
  have n2:(r.kind != 2)=true:=by simpa using k2
  have n3:(r.kind != 3)=true:=by simpa using k3
  simp -implicitDefEqProofs [-List.all_eq_true,z46,hal,aI,ba,l1,l2,l3,hc,hr,hp,n1,n2,n3];have hk:r.kind<1∨3<r.kind:=by omega
  rw[if_pos (by omega)]at dn;refine bX (fun q=>cV ?_) (fun q=>?_)
  ·rw[dn];simp -implicitDefEqProofs
  ·exfalso;simp only[mD,decide_eq_false_iff_not,bne_eq_false_iff_eq]at q;omega
end Ps
