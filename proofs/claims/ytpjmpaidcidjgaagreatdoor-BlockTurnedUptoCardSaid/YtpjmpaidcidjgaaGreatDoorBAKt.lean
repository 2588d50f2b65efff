/- Labels: right sets, held against each other, laid down and read (out of the label seat's texts) -/
import Derived.Test.YtpjmpaidcidjgaaGreatDoorAbbKt
import Derived.Test.YtpjmpaidcidjgaaGreatDoorArgsKt
import Derived.ProofKit
import Derived.OpenShut
import Derived.JoinedCond
import Derived.Test.YtpjmpaidcidjgaaGreatDoorTieXKt
import Derived.Test.YtpjmpaidcidjgaaGreatDoorCWKt
namespace Ps
open Go Go.ChangeShapes Go.WideShapes Go.ChangeAt Go.RowKit
def kq:List Ty→Type
 | []=>Unit
 |t::ts=>t.den×kq ts
def ku:(ts:List Ty)→kq ts→List PV
 | [],_=>[]
 |t::ts,(x,xs)=>t.pv x::ku ts xs
def pY:(ts:List Ty)→kq ts→Prop
 | [],_=>True
 |t::ts,(x,xs)=>t.wf x∧pY ts xs
def na:(ts:List Ty)→kq ts→Nat
 | [],_=>0
 |t::ts,(x,xs)=>t.bulk x+na ts xs
def iS(P:Program):List Ty→List TypeId→Bool
 | [],[]=>true
 |τ::τs,t::ts=>eI P τ t [] 0&&τ.isTy&&τ.low&&P.readableRec t&&decide (t<P.types.size)&&iS P τs ts
 |_,_=>false
section
variable {X : Tie} {g : Gh} {W W' : World} {H : Type} {enc : TypeId × Value → H} {P : Program}
def nb:List Value→Nat
 | []=>0
 |.slice (some a) _ _::l=>a.off+nb l
 |_::l=>nb l
theorem xZ{a:Addr}{n c:Nat}:∀{l:List Value},Value.slice (some a) n c∈l→a.off≤nb l
 | [],h=>by simp at h
 |v::l,h=>by
  rcases cY.1 h with rfl|h
  ·simp only[nb];omega
  ·have:=xZ h
   cases v with
   |slice b _ _=>cases b<;>simp only[nb]<;>omega
   |_=>exact this
def Ng(args:List Value):Nat:=nb (args.flatMap fun v=>v.cells.toList)
def iA(W:World)(k:Nat)(b:Nat):Nat:=match W.heap[b]? with|some (.cells us _ _)=>us.size+k|_=>0
theorem Nh(W:World)(k:Nat):oU (bN (iA W k)) W:=by
 intro b us t fz h;simp only[bN,iA,h];omega
theorem Ni{w:World}{base:Nat}{t:TypeId}{a:Addr}{l c:Nat}(h:Cell.okWide P w .any base t (.slice (some a) l c)):a.spot=none∧∃us t f,w.heap[a.block]?=some (.cells us t f):=by
 unfold Cell.okWide at h;split at h<;>try (rename_i h2;cases h2;done)
 unfold Cell.ok at h;split at h<;>try (rename_i h2;cases h2;done)
 ·rename_i h1 h2;cases h2;obtain⟨_,_,_,hs,row,cells,hsh,_⟩:=h;refine⟨hs,?_⟩;unfold World.shape? at hsh;split at hsh
  ·rename_i us t f he;exact⟨us,t,f,he⟩
  ·cases hsh
 ·cases h
theorem XA{base:Nat}{t:TypeId}{v:Value}(h:Value.okWide P W .any base t v){a:Addr}{l c:Nat}(hm:Value.slice (some a) l c∈v.cells.toList) :
  a.spot=none∧∃us t f,W.heap[a.block]?=some (.cells us t f):=by
 have agg:∀cs,v=.agg cs→Row.okWide P W .any base t cs→a.spot=none∧∃us t f,W.heap[a.block]?=some (.cells us t f):=by
  rintro cs rfl ⟨ts,_,_,hr⟩;obtain⟨i,hi⟩:=fm hm;obtain⟨u,_,hu⟩:=hr i _ (by simpa[Value.cells]using hi);exact Ni hu
 unfold Value.okWide at h;split at h
 ·obtain⟨cs,h1,_,h3⟩:=h;exact agg cs h1 h3
 ·obtain⟨cs,h1,_,h3⟩:=h;exact agg cs h1 h3
 ·rename_i n1 n2;cases v<;>simp only[Value.cells]at hm<;>try (simp at hm;done)
  ·rename_i b l2 c2;have:Value.slice (some a) l c=Value.slice b l2 c2:=by simpa using hm
   cases this;exact Ni h
  ·exfalso;unfold Cell.okWide at h;split at h<;>rename_i hq<;>try (cases hq;done)
   unfold Cell.ok at h;split at h<;>rename_i hq<;>first|(cases hq;done)|exact h
theorem XB{base:Nat}{t:TypeId}{v:Value}(h:Value.okWide P W .any base t v)(hs:∀fs,P.underlying t≠some (.struct fs))(ha:∀n e,P.underlying t≠some (.array n e)):v.cells = #[v]:=by
 unfold Value.okWide at h;split at h
 ·rename_i fs hf;exact absurd hf (hs fs)
 ·rename_i n e hf;exact absurd hf (ha n e)
 ·cases v<;>try rfl
  exfalso;unfold Cell.okWide at h;split at h<;>rename_i hq<;>try (cases hq;done)
  unfold Cell.ok at h;split at h<;>rename_i hq<;>first|(cases hq;done)|exact h
theorem XC{τ:Ty}{t:TypeId}{base:Nat}{v:Value}{d:DataW H}{ps:List MemPlace}{p:Nat→Nat}(hc:eI P τ t [] 0=true)(hty:τ.isTy=true)(hlow:τ.low=true)
  (hg:oU (bN p) W)(hv:Value.okWide P W .any base t v)(hoff:∀a l c,Value.slice (some a) l c∈v.cells.toList→(∃us t f,W.heap[a.block]?=some (.cells us t f))→a.off≤p a.block)
  (h:DataW.Trod enc P W 0 (fun _=>true) true t v d ps):∃x:τ.den,τ.wf x∧τ.bulk x=bulkD d∧VR X (bN p) W (τ.pv x) v:=by
 obtain⟨fuel,hf⟩:=h
 have hsp:QS (bN p) v.cells.toList:=fun a l c hm=>by
  obtain⟨h1,h2⟩:=XA hv hm;exact⟨h1,hoff a l c hm h2⟩
 obtain⟨x,h1,h2,h3⟩:=(oV (X:=X) (enc:=enc) (P:=P) hg τ hlow).1 hty t fuel _ d ps hc hf;refine⟨x,h1,h3,?_⟩
 have single:(∀fs,P.underlying t≠some (.struct fs))→(∀n e,P.underlying t≠some (.array n e))→(∃c,τ.emb x=[c]∧τ.pv x=c)→VR X (bN p) W (τ.pv x) v:=by
  rintro k1 k2 ⟨c,e1,e2⟩;rw[XB hv k1 k2,e1]at h2;rw[e2];exact h2.2 0 c v rfl rfl
 cases τ with
 |bool=>
  unfold eI lb at hc;split at hc
  ·rename_i ht;exact single (fun fs e=>by rw[ht]at e;cases e) (fun n e' e=>by rw[ht]at e;cases e) ⟨_,rfl,rfl⟩
  ·cases hc
 |int k=>
  unfold eI gB at hc;split at hc
  ·rename_i ht;exact single (fun fs e=>by rw[ht]at e;cases e) (fun n e' e=>by rw[ht]at e;cases e) ⟨_,rfl,rfl⟩
  ·cases hc
 |str=>
  unfold eI fc at hc;split at hc
  ·rename_i ht;exact single (fun fs e=>by rw[ht]at e;cases e) (fun n e' e=>by rw[ht]at e;cases e) ⟨_,rfl,rfl⟩
  ·cases hc
 |sl e=>
  unfold eI at hc;split at hc
  ·rename_i ht;refine single (fun fs e=>by rw[ht]at e;cases e) (fun n e' e=>by rw[ht]at e;cases e) ?_
   cases x with
   |none=>exact⟨_,rfl,rfl⟩
   |some q=>obtain⟨a,b⟩:=q;exact⟨_,rfl,rfl⟩
  ·cases hc
 |st b=>
  unfold eI at hc;split at hc
  ·rename_i fs ht;unfold Value.okWide at hv;rw[ht]at hv;obtain⟨cs,rfl,_,_⟩:=hv;refine .agg _ cs ?_ (fun j c u e1 e2=>h2.2 j c u e1 (by simpa[Value.cells]using e2));have:=h2.1;simpa[Value.cells]using this
  ·cases hc
 |unit=>cases hty
 |pair a b=>cases hty
theorem xc{p:Nat→Nat}{base:Nat}(hg:oU (bN p) W):∀(τs:List Ty) (ts:List TypeId) (vs:List Value) (ds:List (DataW H)) (ps:List MemPlace),iS P τs ts=true →
  (∀(j:Nat) t v,ts[j]?=some t→vs[j]?=some v→Value.okWide P W .any base t v) →
  (∀v∈vs,∀a l c,Value.slice (some a) l c∈v.cells.toList→(∃us t f,W.heap[a.block]?=some (.cells us t f))→a.off≤p a.block) →
  DataW.TrodAll enc P W 0 (fun _=>true) true ts vs ds ps→∃xs:kq τs,pY τs xs∧na τs xs=bulkDs ds∧kK X (bN p) W (ku τs xs) vs
 | [],[],vs,ds,ps,_,_,_,h=>by
  match vs,ds,h with
  | [],[],_=>exact⟨(),trivial,rfl,rfl,fun j c u h1 _=>by simp[ku]at h1⟩
 | [],_::_,_,_,_,h,_,_,_=>by simp[iS]at h
 |_::_,[],_,_,_,h,_,_,_=>by simp[iS]at h
 |τ::τs,t::ts,vs,ds,ps,hc,hv,ho,h=>by
  simp only[iS,aI,decide_eq_true_eq]at hc;obtain⟨⟨⟨⟨⟨c1,c2⟩,c3⟩,c4⟩,c5⟩,c6⟩:=hc
  match vs,ds,h with
  |v::vs,d::ds,⟨p1,p2,h1,h2,_⟩=>
   obtain⟨x,x1,x2,x3⟩:=XC (X:=X) c1 c2 c3 hg (hv 0 t v rfl rfl) (ho v (by simp)) h1;obtain⟨xs,y1,y2,y3⟩:=xc hg τs ts vs ds p2 c6 (fun j t v e1 e2=>hv (j+1) t v (by simpa using e1) (by simpa using e2)) (fun v hm=>ho v (by simp[hm])) h2;refine⟨(x,xs),⟨x1,y1⟩,?_,?_⟩
   ·show τ.bulk x+na τs xs=bulkD d+bulkDs ds;rw[x2,y2]
   ·exact zZ (cs:=[τ.pv x]) (us:=[v]) (lT x3) y3
theorem xd(hl:laidOutB P=true)(hk:nT W W'){sp':Nat→Bool}:∀{τs:List Ty} {ts:List TypeId} {vs:List Value} {ds:List (DataW H)} {ps:List MemPlace},iS P τs ts=true →
  DataW.TrodAll enc P W 0 (fun _=>true) true ts vs ds ps→(∀p∈ps,p.block<W.heap.size)→(∀p∈ps,sp' p.block=true)→DataW.TrodAll enc P W' 0 sp' true ts vs ds ps
 | [],[],vs,ds,ps,_,h,_,_=>by
  match vs,ds,h with
  | [],[],h=>exact h
 | [],_::_,_,_,_,h,_,_,_=>by simp[iS]at h
 |_::_,[],_,_,_,h,_,_,_=>by simp[iS]at h
 |τ::τs,t::ts,vs,ds,ps,hc,h,hlt,hs=>by
  simp only[iS,aI,decide_eq_true_eq]at hc;obtain⟨⟨⟨⟨⟨c1,c2⟩,c3⟩,c4⟩,c5⟩,c6⟩:=hc
  match vs,ds,h with
  |v::vs,d::ds,⟨p1,p2,h1,h2,e⟩=>
   subst e;refine⟨p1,p2,WideElems.Trod_stays hl c4 c5 h1 (fun x hx=>?_) (fun x hx=>hs x (by simp[hx])),xd hl hk c6 h2 (fun x hx=>hlt x (by simp[hx])) (fun x hx=>hs x (by simp[hx])),rfl⟩;have hb:=hlt x (by simp[hx])
   cases x with
   |cell b o=>exact World.cell?_of_block (w:=W) (hk.2.2.2 b hb)
   |map b=>exact hk.2.2.2 b hb
theorem xe:∀{ts:List TypeId} {vs:List Value} {ds:List (DataW H)} {ps:List MemPlace} {b:Nat} {sp:Nat→Bool} {hd:Bool},DataW.TrodAll enc P W b sp hd ts vs ds ps→vs.length=ts.length∧ds.length=ts.length
 | [],[],[],_,_,_,_,_=>⟨rfl,rfl⟩
 |_::_,_::_,_::_,_,_,_,_,⟨_,_,_,h,_⟩=>by
  obtain⟨a,b⟩:=xe h;exact⟨by simp[a],by simp[b]⟩
theorem contract{X:Tie}(hX:bY X){gid:Nat}{fn:Func}(hfn:X.P.funcs[X.fnOf gid]?=some fn)(hname:fn.name ≠ "runtime.NumGoroutine") (hbody:fn.body.isSome=true) {s:ChangeSpec} (hvars:s.vars=[])
  (τs:List Ty) (hchk:iS X.P τs fn.params.toList=true) (hspec:∀(H:Type) (ds:List (DataW H)),ds.length=fn.params.size→s.fn H ds = {results:=[.lit (.bool true)],args:=ds})
  {tb:TypeId} (hres:fn.resultTypes = #[tb]) (htb:X.P.underlying tb=some .bool) (hl:laidOutB X.P=true) {N:Nat} (hlaw:∀xs:kq τs,pY τs xs→na τs xs≤N→∃S',aS X.T gid (ku τs xs) bF=some (.bool true,S'))
  {W:World} {base:Nat} {args:Array Value} {ds gs:List (DataW H)} {before:List MemPlace} (hN:bulkDs ds≤N)
  (hgl:∀q∈X.gl,q.1<W.heap.size∧W.cell? ⟨q.1,0,none⟩=some q.2)
  (hval:∀(j:Nat) t v,fn.params[j]?=some t→args[j]?=some v→Value.okWide X.P W .any base t v)
  (hW:DataW.Whole enc X.P fn.params.toList s.vars false W args.toList ds gs before) :
  Calls X.P (X.fnOf gid) args W fun e W'=>∃v,e=.returned v∧s.post enc X.P fn false true false false W args v W':=by
 have hW':=hW;have hlt:=hW.lt;obtain⟨p,q,hA,hV,rfl,hfz,hnd⟩:=hW;rw[hvars]at hV;obtain⟨rfl,rfl⟩:=trodVars_none hV;obtain⟨l1,l2⟩:=xe hA;let k:=Ng args.toList
 have hoff:∀v∈args.toList,∀a l c,Value.slice (some a) l c∈v.cells.toList→(∃us t f,W.heap[a.block]?=some (.cells us t f))→a.off≤iA W k a.block:=by
  intro v hv a l c hm ⟨us,t,f,he⟩;have:a.off≤k:=xZ (List.mem_flatMap.2 ⟨v,hv,hm⟩);simp only[iA,he];omega
 obtain⟨xs,x1,x2,x3⟩:=xc (X:=X) (enc:=enc) (Nh W k) τs fn.params.toList args.toList ds p hchk (fun j t v e1 e2=>hval j t v (by simpa using e1) (by simpa using e2)) hoff hA;obtain⟨S',hc⟩:=hlaw xs x1 (by rw[x2];exact hN);have hVRL:bD X (bN (iA W k)) W (ku τs xs) args:=⟨by simpa using x3.1,fun j c u e1 e2=>x3.2 j c u e1 (by simpa using e2)⟩;refine(VJ hX hfn hname hbody hc (p:=iA W k) (fun b hb=>?_) ?_ hVRL).mono fun e W' ⟨he,hk⟩=>?_
 ·have:W.heap[b]?=none:=by simpa using hb
  simp[iA,this]
 ·exact fun q hq=>⟨⟨(hgl q hq).1,fun _=>by simp[bN],rfl,fun _=>by simp[bN]⟩,(hgl q hq).2⟩
 subst he
 have hds:s.fn H (ds++[]) = {results:=[.lit (.bool true)],args:=ds}:=by
  rw[dn];exact hspec H ds (by rw[l2];simp)
 refine⟨_,rfl,Mr (pa:=p) (pv:=[]) hW' (fun _ _ _=>?_) (fun sp hsp=>?_) (fun _ _=>?_) rfl hk (ok_one hres rfl (okWide_bool_mk htb _))⟩
 ·rw[hds,hres];exact trodAll_cons_mk (shut_bool htb _) trodAll_mk0
 ·rw[hds];exact xd hl hk hchk hA (fun x hx=>hlt x (by simp[hx])) (fun x hx=>hsp x (by simp[hx]))
 ·rw[hds,hvars];rfl
end
end Ps
set_option linter.defProp false
namespace Ps
set_option linter.unusedSimpArgs false
set_option linter.unusedVariables false
open Go
def QX:T.fn 121=some (.code ot):=rfl
def iq(c:UInt8):Bool:=(97≤c.toNat&&c.toNat≤122)||(65≤c.toNat&&c.toNat≤90)||c.toNat==95
def jY(c:UInt8):Bool:=48≤c.toNat&&c.toNat≤57
def uE(l:List UInt8):Bool:=l.all fun c=>iq c||jY c
def kL:List UInt8→Bool
 | []=>false
 |c::l=>iq c&&uE l&&decide (l.length+1≤32)
def gi(first:Bool):List UInt8→Bool
 | []=>true
 |c::l=>(iq c||(!first&&jY c))&&gi false l
theorem zg:∀l,gi false l=uE l
 | []=>rfl
 |c::l=>by simp[gi,uE,zg l]
def zh(s:List UInt8):kL s=(gi true s&&(!(s==[])&&decide (s.length≤32))):=by
 cases s with
 |nil=>rfl
 |cons c l=>simp[kL,gi,zg,zE]
def QY{s:List UInt8}(hs:s.length≤maxLen){K:List Kt}{S:St}{Q:Fr→St→Prop}:∀(rest pre:List UInt8),s=pre++rest→∀(fr:Fr),
  fr 0=.str s→fr 6=.int .i64 s.length→fr 7=.int .i64 pre.length →
  (gi pre.isEmpty rest=true→∀fr',fr' 0=.str s→Ok (aF T K fr' S) Q)→(gi pre.isEmpty rest=false→∀fr',fr' 2=.bool false→Q fr' S) →
  Ok (aF T (.lp rN::.blk 0::K) fr S) Q:=by
 intro rest
 induction rest with
 |nil=>
  intro pre hp fr h0 h6 h7 k1 k2;rw[dn]at hp;subst hp;rw[bH];simp[h0,h6,h7]
  exact k1 rfl _ (by simp[h0])
 |cons c rest ih=>
  intro pre hp fr h0 h6 h7 k1 k2;have hi:pre.length<s.length:=by rw[hp];simp
  have hc:s[pre.length]=c:=by simp[hp]
  unfold maxLen at hs;have hw:=qX (a:=pre.length) (by omega);have hn:(!pre.isEmpty)=decide (0<pre.length):=by cases pre<;>simp
  have he:(pre++[c]).isEmpty=false:=by simp
  have hL:∀fr',fr' 0=.str s→fr' 6=.int .i64 s.length→fr' 7=.int .i64 ((pre.length+1:Nat):Int)→(iq c||(decide (0<pre.length)&&jY c))=true→Ok (aF T (.lp rN::.blk 0::K) fr' S) Q:=by
   intro fr' g0 g6 g7 gl;refine ih (pre++[c]) (by simp[hp]) fr' g0 g6 (by simpa using g7) (fun h=>k1 ?_) (fun h=>k2 ?_)
   ·rw[he]at h;simp only[gi,hn,gl,h,Bool.and_self]
   ·rw[he]at h;simp only[gi,h,Bool.and_false]
  have hR:∀fr',fr' 2=.bool false→(iq c||(decide (0<pre.length)&&jY c))=false→Q fr' S:=fun fr' g2 gl=>k2 (by simp only[gi,hn,gl,Bool.false_and]) fr' g2;clear k1 k2;rw[bH];simp -implicitDefEqProofs [h0,h6,h7,hi,hc]
  refine cF (fun a1=>cF (fun _=>hL _ (by simp[h0]) (by simp[h6]) (by simp[hw]) ?_) (fun a2=>absurd a1 (by simp[a2]))) (fun a1=>cF (fun a2=>cF (fun _=>hL _ (by simp[h0]) (by simp[h6]) (by simp[hw]) ?_) (fun a3=>absurd a2 (by simp[a3])))
   (fun a2=>cF (fun a3=>hL _ (by simp[h0]) (by simp[h6]) (by simp[hw]) ?_) (fun a3=>cF (fun a4=>hL _ (by simp[h0]) (by simp[h6]) (by simp[hw]) ?_) (fun a4=>hU (hR _ (by simp) ?_)))))
  ·simp[iq,jY]at a1 ⊢;omega
  ·simp[iq,jY]at a2 ⊢;omega
  ·simp[iq,jY]at a3 ⊢;omega
  ·simp[iq,jY]at a4 ⊢;omega
  ·simp[iq,jY]at a1 a2 a3 a4 ⊢;omega
def QZ{s:List UInt8}(hs:s.length≤maxLen):aS T 121 [.str s] bF=some (.bool (kL s),bF):=by
 refine cM QX rfl ?_;simp[ot];refine QY hs s [] rfl _ (by simp) (by simp) (by simp) (fun h fr' g0=>?_) (fun h fr' g2=>?_)
 ·simp[g0,zh,show gi true s=true from h]
  congr 1;exact decide_eq_decide.2 (by omega)
 ·simp[g2,zh,show gi true s=false from h]
def Qa{s:List UInt8}(hs:s.length≤maxLen):ef T 121 [.str s]=some (.bool (kL s)):=xV (QZ hs) rfl rfl
def Qb:T.fn 40=some (.code z46):=rfl
abbrev ad:=List UInt8×List UInt8×Unit
def az(x:ad):PV:=.agg [.str x.1,.str x.2.1]
@[simp]def oW(x:ad):(az x).cells=[.str x.1,.str x.2.1]:=rfl
def eq(l:List ad)(i:Nat)(h:i<l.length):Nat:=
 if kL l[i].1=false then 8 else if l[i].2.1.isEmpty then 2 else if 64<l[i].2.1.length then 3 else
 if h0:0<i then(if(Op.bytesLess l[i].1 l[i-1].1||l[i].1==l[i-1].1)=true then 13 else 0)else 0
def gn(l:List ad)(i:Nat):Nat:=
 if h:i<l.length then(if eq l i h=0 then gn l (i+1)else eq l i h)else 0
termination_by l.length-i
def fX(l:List ad):Nat:=if 8<l.length then 3 else gn l 0
def Qc{l:List ad}{v:PV}(hv:cn 2 v (l.map az))(hn:∀x∈l,x.1.length≤maxLen)(hl:l.length≤maxLen){K:List Kt}{Q:Fr→St→Prop}{S0:St}:∀(n i:Nat),l.length-i=n→i≤l.length→∀(fr:Fr) (S:St),
  fr 0=v→fr 8=v→fr 9=.int .i64 l.length→fr 10=.int .i64 i→aV S0 S→(gn l i=0→∀fr' S',aV S0 S'→Ok (aF T K fr' S') Q) →
  (gn l i≠0→∀fr' S',aV S0 S'→fr' 2=.int .i64 (gn l i)→Q fr' S')→Ok (aF T (.lp rY::.blk 0::K) fr S) Q:=by
 intro n
 induction n with
 |zero=>
  intro i hni hil fr S h0 h8 h9 h10 hg k1 k2;have hi:i=l.length:=by omega
  have hc:gn l i=0:=by rw[gn,dif_neg (by omega)]
  rw[bH];simp -implicitDefEqProofs [h0,h8,h9,h10,hi]
  exact k1 hc _ _ hg
 |succ n ih=>
  intro i hni hil fr S h0 h8 h9 h10 hg k1 k2;have hi:i<l.length:=by omega
  have hget:=hv.get i (by simpa using hi) .i64;have hx:(l.map az)[i]'(by simpa using hi)=az l[i]:=by simp
  rw[hx,oW]at hget;have hpv:=Qa (hn l[i] (fK hi));unfold maxLen at hl;have hw:=qX (a:=i) (by omega);have hpo:∀{a b:PV},ap true 2 [a,b]=some (.agg [a,b]):=fun {a b}=>rfl;have hp1:∀{a:PV} {m:List PV},ap false 1 (a::m)=some a:=fun {a m}=>by simp[ap]
  rw[gn,dif_pos hi]at k1 k2
  have hL:eq l i hi=0→∀fr' S',fr' 0=v→fr' 8=v→fr' 9=.int .i64 l.length→fr' 10=.int .i64 ((i+1:Nat):Int)→aV S0 S'→Ok (aF T (.lp rY::.blk 0::K) fr' S') Q:=by
   intro hz fr' S' g0 g8 g9 g10 gg;rw[if_pos hz]at k1 k2;exact ih (i+1) (by omega) (by omega) fr' S' g0 g8 g9 g10 gg k1 k2
  have hR:∀(e:Nat),e≠0→eq l i hi=e→∀fr' S',fr' 2=.int .i64 e→aV S0 S'→Q fr' S':=by
   intro e he hz fr' S' g2 gg;rw[if_neg (by rw[hz];exact he),hz]at k2;exact k2 he fr' S' gg g2
  clear k1 k2 ih;by_cases hi0:0<i
  ·have hgetp:=hv.get (i-1) (by simp;omega) .i64;have hxp:(l.map az)[i-1]'(by simp;omega)=az l[i-1]:=by simp
   rw[hxp,oW]at hgetp;have hsub:IntKind.i64.wrap ((i:Int)-1)=((i-1:Nat):Int):=by rw[bT]<;>omega
   rw[bH];simp -implicitDefEqProofs [h0,h8,h9,h10,hi,hget,hpo,hp1,hpv,hi0,hgetp,hsub,aH,bB]
   refine cF (fun a1=>hU (hR 8 (by decide) ?_ _ _ (by simp) (hg.obj _))) (fun a1=>cF (fun a2=>hU (hR 2 (by decide) ?_ _ _ (by simp) (hg.obj _))) (fun a2=>cF (fun a3=>hU (hR 3 (by decide) ?_ _ _ (by simp) (hg.obj _)))
    (fun a3=>cF (fun a4=>hU (hR 13 (by decide) ?_ _ _ (by simp) (hg.obj _))) (fun a4=>hL ?_ _ _ (by simp[h0]) (by simp[h8]) (by simp[h9]) (by simp[hw]) (hg.obj _)))))
   ·rw[eq,if_pos (by simpa using a1)]
   ·rw[eq,if_neg (by simpa using a1),if_pos a2]
   ·rw[eq,if_neg (by simpa using a1),if_neg (by simp[a2]),if_pos (by simp at a3;omega)]
   ·rw[eq,if_neg (by simpa using a1),if_neg (by simp[a2]),if_neg (by simp at a3;omega),dif_pos hi0,if_pos a4]
   ·rw[eq,if_neg (by simpa using a1),if_neg (by simp[a2]),if_neg (by simp at a3;omega),dif_pos hi0,if_neg (by simp only[a4];decide)]
  ·rw[bH];simp -implicitDefEqProofs [h0,h8,h9,h10,hi,hget,hpo,hp1,hpv,hi0,aH,bB]
   refine cF (fun a1=>hU (hR 8 (by decide) ?_ _ _ (by simp) (hg.obj _))) (fun a1=>cF (fun a2=>hU (hR 2 (by decide) ?_ _ _ (by simp) (hg.obj _))) (fun a2=>cF (fun a3=>hU (hR 3 (by decide) ?_ _ _ (by simp) (hg.obj _)))
    (fun a3=>hL ?_ _ _ (by simp[h0]) (by simp[h8]) (by simp[h9]) (by simp[hw]) (hg.obj _))))
   ·rw[eq,if_pos (by simpa using a1)]
   ·rw[eq,if_neg (by simpa using a1),if_pos a2]
   ·rw[eq,if_neg (by simpa using a1),if_neg (by simp[a2]),if_pos (by simp at a3;omega)]
   ·rw[eq,if_neg (by simpa using a1),if_neg (by simp[a2]),if_neg (by simp at a3;omega),dif_neg hi0]
def Qd{l:List ad}{v:PV}(hv:cn 2 v (l.map az))(hn:∀x∈l,x.1.length≤maxLen)(hl:l.length≤maxLen)(S:St):aS T 40 [v] S=some (.int .i64 (fX l),S):=by
 refine cM Qb rfl ?_;simp -implicitDefEqProofs [z46,hv.len];refine cF (fun a=>?_) (fun a=>?_)
 ·have h:fX l=3:=by rw[fX,if_pos (by simp at a;omega)]
  simp[h]
 ·have h:fX l=gn l 0:=by rw[fX,if_neg (by simp at a;omega)]
  refine Qc hv hn hl l.length 0 (by omega) (by omega) _ S (by simp) (by simp) (by simp) (by simp) (aV.refl S) (fun hz fr' S' gg=>?_) (fun hz fr' S' gg g2=>?_)
  ·simp[gg,h,hz]
  ·simp[gg,g2,h]
abbrev kM:Ty:=.st (.pair .str (.pair .str .unit))
def oX(x:(Ty.sl kM).den):List ad:=match x with|none=>[]|some q=>q.1
def Qe{x:(Ty.sl kM).den}(h:(Ty.sl kM).wf x):(oX x).length≤maxLen∧∀y∈oX x,y.1.length≤maxLen∧y.2.1.length≤maxLen:=by
 cases x with
 |none=>exact⟨bh _,fun y hy=>by simp[oX]at hy⟩
 |some q=>
  obtain⟨es,sp⟩:=q;exact⟨Nat.le_trans (Nat.le_add_right _ _) h.1,fun y hy=>⟨(h.2.1 y hy).1,(h.2.1 y hy).2.1⟩⟩
def iJ(a b:List UInt8):Int:=if Op.bytesLess a b then -1 else if(Op.bytesLess a b||a==b)then 0 else 1
def lU(x y:ad):Int:=if iJ x.1 y.1=0 then iJ x.2.1 y.2.1 else iJ x.1 y.1
def jZ:List ad→List ad→Option Int
 | [],_=>none
 |_::_,[]=>some 1
 |x::a,y::b=>if lU x y=0 then jZ a b else some (lU x y)
def ft(a b:List ad):Int:=match jZ a b with|some c=>c|none=>if a.length<b.length then -1 else 0
def zi{l p r:List ad}{x:ad}{v:PV}(hv:cn 2 v (l.map az))(hl:l=p++x::r):cb 2 v (.int .i64 (p.length:Int))=some (.ref [.str x.1,.str x.2.1]):=by
 have h:p.length<(l.map az).length:=by rw[hl];simp
 have:=hv.get p.length h .i64;have e:(l.map az)[p.length]=az x:=by simp[hl]
 rw[e,oW]at this;exact this
def mw{a b:List UInt8}:Op.bytesLess a b=true↔a<b:=by
 induction a generalizing b with
 |nil=>cases b<;>simp[Op.bytesLess]
 |cons x a ih=>cases b with
  |nil=>simp[Op.bytesLess]
  |cons y b=>simp[Op.bytesLess,ih,List.cons_lt_cons_iff]
def Qf(a b:List UInt8):iJ b a = - iJ a b:=by
 unfold iJ;by_cases h:a<b
 ·have h1:¬b<a:=fun k=>zS a (List.lt_trans h k);have h2:¬b=a:=fun k=>by rw[k]at h;exact zS a h
  have e1:Op.bytesLess a b=true:=mw.2 h;have e2:Op.bytesLess b a=false:=by rw[oL];exact fun k=>h1 (mw.1 k)
  simp[e1,e2,h2]
 ·by_cases h1:b<a
  ·have h2:¬a=b:=fun k=>by rw[k]at h1;exact zS b h1
   have e1:Op.bytesLess b a=true:=mw.2 h1;have e2:Op.bytesLess a b=false:=by rw[oL];exact fun k=>h (mw.1 k)
   simp[e1,e2,h2]
  ·have h2:a=b:=List.le_antisymm h1 h;subst h2;have e2:Op.bytesLess a a=false:=by rw[oL];exact fun k=>h (mw.1 k)
   simp[e2]
@[simp]def aDb:ft [] []=0:=rfl
@[simp]def aDc(y:ad)(b:List ad):ft [] (y::b) = -1:=by simp[ft,jZ]
@[simp]def aDd(x:ad)(a:List ad):ft (x::a) []=1:=by simp[ft,jZ]
def p1{a:PV}{m:List PV}:ap false 1 (a::m)=some a:=by simp[ap]
def p2{a b:PV}:ap true 2 [a,b]=some (.agg [a,b]):=rfl
@[simp]def Qg(x:ad):(az x).free=true:=rfl
@[simp]def Qh(x:ad):(az x).frz=az x:=rfl
@[simp]def aDe(x:ad):(az x).cells.all PV.one=true:=rfl
def uF(l:List ad):PV.freeL (l.map az)=true:=ju az Qg l
def qp(l:List ad):PV.frzL (l.map az)=l.map az:=jv az Qh l
def qq(l:List ad):∀e∈l.map az,e.cells.length=2:=by
 intro e he;obtain⟨x,_,rfl⟩:=List.mem_map.1 he;rfl
structure zj(v:PV)(l:List ad):Prop where
 isl:cU 2 v (l.map az)
 free:v.free=true
 frz:v.frz=v
def zj.reads{v:PV}{l:List ad}(h:zj v l):cn 2 v (l.map az):=h.isl.reads
theorem uG(t:Ty)(h:∀x:t.den,1≤t.bulk x):∀l:List t.den,l.length≤(l.map t.bulk).sum
 | []=>aR _
 |x::l=>by
  have:=uG t h l;have:=h x;simp only[bE,cB,tk];omega
def uH(x:ad):Prop:=kL x.1=true∧x.2.1≠[]∧x.2.1.length≤64
def qr(l:List ad):Prop:=l.length≤8∧(∀x∈l,uH x)∧l.Pairwise (fun x y=>x.1<y.1)
def Qi{a b:List UInt8}:(Op.bytesLess b a||b==a)=false↔a<b:=by
 rw[←mw];have h:=Qf a b;unfold iJ at h;cases p:Op.bytesLess a b<;>cases q:Op.bytesLess b a<;>simp[p,q]at h ⊢
 ·by_cases e:a=b
  ·simp[e]
  ·have e':¬b=a:=fun k=>e k.symm;simp[e,e']at h
 ·intro e;subst e;rw[p]at q;cases q
def qt{l:List ad}{i:Nat}(h:i<l.length):eq l i h=0↔uH l[i]∧(∀h0:0<i,l[i-1].1<l[i].1):=by
 unfold eq uH
 cases hn:kL l[i].1 with
 |false=>simp
 |true=>
  by_cases b:l[i].2.1=[]
  ·simp[b]
  ·have b':l[i].2.1.isEmpty=false:=by simpa using b
   by_cases c:64<l[i].2.1.length
   ·have c':¬l[i].2.1.length≤64:=by omega
    simp[b',c,c']
   ·have c':l[i].2.1.length≤64:=by omega
    rw[if_neg (by simp),b',if_neg (by simp),if_neg c];by_cases d:0<i
    ·rw[dif_pos d];have q:=Qi (a:=l[i-1].1) (b:=l[i].1)
     cases e:(Op.bytesLess l[i].1 l[i-1].1||l[i].1==l[i-1].1)with
     |true=>
      rw[e]at q;simp only[if_true];constructor
      ·intro k;cases k
      ·rintro⟨_,k⟩;have:=q.2 (k d)
       cases this
     |false=>
      rw[e]at q;simp only[bg,if_false,true_iff];exact⟨⟨trivial,b,c'⟩,fun _=>q.1 rfl⟩
    ·rw[dif_neg d];simp only[true_iff];exact⟨⟨trivial,b,c'⟩,fun h0=>absurd h0 d⟩
def Qj{l:List ad}:∀(n i:Nat),l.length-i=n→(gn l i=0↔∀j (h:j<l.length),i≤j→eq l j h=0):=by
 intro n
 induction n with
 |zero=>
  intro i hi;rw[gn,dif_neg (by omega)]
  exact⟨fun _ j h hj=>by omega,fun _=>rfl⟩
 |succ n ih=>
  intro i hi;rw[gn,dif_pos (by omega)];by_cases h0:eq l i (by omega)=0
  ·rw[if_pos h0,ih (i+1) (by omega)];constructor
   ·intro k j h hj;by_cases e:j=i
    ·subst e;exact h0
    ·exact k j h (by omega)
   ·intro k j h hj;exact k j h (by omega)
  ·rw[if_neg h0];exact⟨fun e=>absurd e h0,fun k=>absurd (k i (by omega) (aR _)) h0⟩
def Qk{l:List ad}:fX l=0↔qr l:=by
 unfold fX qr;by_cases h8:8<l.length
 ·simp[h8];omega
 ·rw[if_neg h8,Qj l.length 0 rfl];have h8':l.length≤8:=by omega
  simp only[h8',true_and];constructor
  ·intro k;refine⟨fun x hx=>?_,?_⟩
   ·obtain⟨i,hi,rfl⟩:=iF hx;exact((qt hi).1 (k i hi (bh _))).1
   ·rw[QO]
    have adj:∀d i j (hi:i<l.length) (hj:j<l.length),j=i+d+1→l[i].1<l[j].1:=by
     intro d
     induction d with
     |zero=>
      intro i j hi hj e;subst e
      exact((qt hj).1 (k _ hj (bh _))).2 (by omega)
     |succ d ih=>
      intro i j hi hj e;have h1:=ih i (j-1) hi (by omega) (by omega);have h2:=((qt hj).1 (k _ hj (bh _))).2 (by omega);exact List.lt_trans h1 h2
    intro i j hi hj hij;exact adj (j-i-1) i j hi hj (by omega)
  ·rintro⟨k1,k2⟩ j h _;rw[qt h];rw[QO]at k2;exact⟨k1 _ (fK h),fun h0=>k2 (j-1) j (by omega) h (by omega)⟩
end Ps
