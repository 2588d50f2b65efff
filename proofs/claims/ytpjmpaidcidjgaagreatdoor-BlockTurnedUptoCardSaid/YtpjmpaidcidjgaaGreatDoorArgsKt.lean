/- Arguments that are plain data, as pure values: what a reading of them gives. -/
import Derived.Test.YtpjmpaidcidjgaaGreatDoorAbbKt
import Derived.Test.YtpjmpaidcidjgaaGreatDoorExtMKt
import Derived.ChangeArms
import Derived.WideKeyArgs
namespace Ps
open Go
inductive Ty where
 |bool|int (k:IntKind)|str|sl (e:Ty)|st (b:Ty)|unit|pair (a b:Ty)
def Ty.den:Ty→Type
 |.bool=>Bool
 |.int _=>Int
 |.str=>List UInt8
 |.sl e=>Option (List e.den×List e.den)
 |.st b=>b.den
 |.unit=>Unit
 |.pair a b=>a.den×b.den
def Ty.n:Ty→Nat
 |.unit=>0
 |.pair a b=>a.n+b.n
 |.st b=>b.n
 |_=>1
def Ty.isTy:Ty→Bool
 |.unit|.pair ..=>false
 |_=>true
def kJ(t:Ty)(cs:List PV):PV:=match t with|.st _=>.agg cs|_=>cs.headD .und
def Ty.emb:(t:Ty)→t.den→List PV
 |.bool,b=>[.bool b]
 |.int k,n=>[.int k n]
 |.str,s=>[.str s]
 |.sl _,none=>[.nils]
 |.sl e,some (es,sp)=>[.sl none (es.map fun x=>kJ e (e.emb x)) (sp.map fun x=>kJ e (e.emb x))]
 |.st b,x=>b.emb x
 |.unit,_=>[]
 |.pair a b,(x,y)=>a.emb x++b.emb y
def Ty.pv(t:Ty)(x:t.den):PV:=kJ t (t.emb x)
def Ty.wf:(t:Ty)→t.den→Prop
 |.bool,_=>True
 |.int k,n=>(Lit.int k n).wf=true
 |.str,s=>s.length≤maxLen
 |.sl _,none=>True
 |.sl e,some (es,sp)=>es.length+sp.length≤maxLen∧(∀x∈es,e.wf x)∧∀x∈sp,e.wf x
 |.st b,x=>b.wf x
 |.unit,_=>True
 |.pair a b,(x,y)=>a.wf x∧b.wf y
def Ty.bulk:(t:Ty)→t.den→Nat
 |.bool,_=>1
 |.int _,_=>1
 |.str,s=>s.length+1
 |.sl _,none=>1
 |.sl e,some (es,sp)=>(es.map e.bulk).sum+(sp.map e.bulk).sum+1
 |.st b,x=>b.bulk x+1
 |.unit,_=>0
 |.pair a b,(x,y)=>a.bulk x+b.bulk y
def eI(P:Program):Ty→TypeId→List Field→Nat→Bool
 |.bool,t,_,_=>lb P t
 |.int k,t,_,_=>gB P t k
 |.str,t,_,_=>fc P t
 |.sl e,t,_,_=>match P.underlying t with|some (.slice e')=>eI P e e' [] 0&&e.isTy&&P.cellsOf e'==e.n&&decide (0<e.n)|_=>false
 |.st b,t,_,_=>match P.underlying t with|some (.struct fs)=>eI P b 0 fs.toList 0 && !b.isTy&&P.cellsOf t==b.n|_=>false
 |.unit,_,fs,_=>fs.isEmpty
 |.pair a b,_,fs,off=>match fs with
  |f::fs'=>f.offset==off&&P.cellsOf f.type==a.n&&a.isTy && !b.isTy&&eI P a f.type [] 0&&eI P b 0 fs' (off+a.n)
  | []=>false
mutual
def bulkD{H:Type}:DataW H→Nat
 |.lit (.string bytes)=>bytes.length+1
 |.lit _=>1
 |.nil=>1
 |.ptr d=>bulkD d+1
 |.slice cx spare=>bulkDs cx+bulkDs spare+1
 |.agg parts=>bulkDs parts+1
 |.iface _ d=>bulkD d+1
 |.map _=>1
 |.held _=>1
def bulkDs{H:Type}:List (DataW H)→Nat
 | []=>0
 |d::r=>bulkD d+bulkDs r
end
theorem mu:∀(t:Ty) (x:t.den),(t.emb x).length=t.n
 |.bool,_=>rfl
 |.int _,_=>rfl
 |.str,_=>rfl
 |.sl _,none=>rfl
 |.sl _,some (_,_)=>rfl
 |.st b,x=>mu b x
 |.unit,_=>rfl
 |.pair a b,(x,y)=>by
  show(a.emb x++b.emb y).length=a.n+b.n;rw[ak,mu a x,mu b y]
theorem qo:∀(t:Ty) (x:t.den),(t.emb x).all PV.one=true
 |.bool,_=>rfl
 |.int _,_=>rfl
 |.str,_=>rfl
 |.sl _,none=>rfl
 |.sl _,some (_,_)=>rfl
 |.st b,x=>qo b x
 |.unit,_=>rfl
 |.pair a b,(x,y)=>by
  show(a.emb x++b.emb y).all PV.one=true;rw[zI,qo a x,qo b y];rfl
theorem uC{t:Ty}(h:t.isTy=true)(x:t.den):(t.pv x).cells=t.emb x:=by
 cases t with
 |bool=>rfl
 |int k=>rfl
 |str=>rfl
 |sl e=>cases x with|none=>rfl|some q=>obtain⟨a,b⟩:=q;rfl
 |st b=>rfl
 |unit=>cases h
 |pair a b=>cases h
def kK(X:Tie)(g:Gh)(w:World)(cs:List PV)(us:List Value):Prop:=
 cs.length=us.length∧∀(j:Nat) (c:PV) (u:Value),cs[j]?=some c→us[j]?=some u→VR X g w c u
theorem lT{X:Tie}{g:Gh}{w:World}{c:PV}{u:Value}(h:VR X g w c u):kK X g w [c] [u]:=by
 refine⟨rfl,fun j a b h1 h2=>?_⟩
 cases j with
 |zero=>simp at h1 h2;subst h1;subst h2;exact h
 |succ j=>simp at h1
theorem zZ{X:Tie}{g:Gh}{w:World}{cs ds:List PV}{us vs:List Value}(h:kK X g w cs us)(k:kK X g w ds vs):kK X g w (cs++ds) (us++vs):=by
 refine⟨by simp[h.1,k.1],fun j c u h1 h2=>?_⟩;by_cases hj:j<cs.length
 ·rw[aw hj]at h1;rw[aw (by rw[←h.1];exact hj)]at h2;exact h.2 j c u h1 h2
 ·rw[eH (by omega)]at h1;rw[eH (by rw[←h.1];omega),←h.1]at h2;exact k.2 _ c u h1 h2
theorem za{α β:Type}{f:α→List β}{sz:Nat}:∀{l:List α},(∀x∈l,(f x).length=sz)→(l.flatMap f).length=l.length*sz
 | [],_=>by simp
 |a::l,h=>by
  rw[dB,ak,h a (by simp),za (fun x hx=>h x (by simp[hx])),bE,Nat.succ_mul];omega
theorem zb{α β:Type}{f:α→List β}{sz:Nat}:∀{l:List α},(∀x∈l,(f x).length=sz)→∀{j:Nat} {c:β},(l.flatMap f)[j]?=some c→∃i r x,j=i*sz+r∧r<sz∧l[i]?=some x∧(f x)[r]?=some c
 | [],_,j,c,h=>by simp at h
 |a::l,hs,j,c,h=>by
  rw[dB]at h;have ha:=hs a (by simp);by_cases hj:j<sz
  ·rw[aw (by omega)]at h;exact⟨0,j,a,by omega,hj,rfl,h⟩
  ·rw[eH (by omega),ha]at h;obtain⟨i,r,x,e1,e2,e3,e4⟩:=zb (l:=l) (fun x hx=>hs x (by simp[hx])) h;refine⟨i+1,r,x,?_,e2,by simpa using e3,e4⟩;rw[Nat.succ_mul];omega
section
variable {X : Tie} {g : Gh} {w : World} {H : Type} {enc : TypeId × Value → H} {P : Program}
def QS(g:Gh)(cs:List Value):Prop:=∀a l c,Value.slice (some a) l c∈cs→a.spot=none∧a.off≤g.pub a.block
def Ty.low(_:Ty):Bool:=true
theorem zc{base:Nat}{a:Addr}{n:Nat}{vs:List Value}(h:w.cells? base a n=some vs):vs.length=n∧∀j,j<n→w.cell? (a.add j)=vs[j]?:=by
 unfold World.cells? at h;split at h
 ·exact⟨by simpa using mapM_some_length h,fun j hj=>mapM_some_get h j j (by simp[hj])⟩
 ·cases h
def oU(g:Gh)(w:World):Prop:=∀(b:Nat) (us:Array Value) (t:TypeId) (fz:Nat×Nat),w.heap[b]?=some (.cells us t fz)→us.size≤g.pub b
theorem zd{a:Addr}{v:Value}(hg:oU g w)(h:w.cell? a=some v):a.spot=none∧a.off<g.pub a.block:=by
 unfold World.cell? at h;split at h
 ·rename_i us t fz he;obtain⟨t1,t2⟩:=fz;split at h
  ·cases h
  ·rename_i hs;have:=(bc.1 h).1;exact⟨by simpa using hs,im this (hg _ _ _ _ he)⟩
 ·cases h
theorem QT(b o i j:Nat):(Addr.add ⟨b,o,none⟩ i).add j=⟨b,o+(i+j),none⟩:=by
 unfold Addr.add;by_cases hi:i=0<;>by_cases hj:j=0<;>simp[hi,hj]<;>omega
def uD(X:Tie)(g:Gh)(w:World)(t:Ty)(cs:List Value)(d:Nat):Prop:=∃x:t.den,t.wf x∧kK X g w (t.emb x) cs∧t.bulk x=d
def QU(X:Tie)(g:Gh)(w:World){H:Type}(enc:TypeId×Value→H)(P:Program) (τ:Ty):Prop:=
 (τ.isTy=true→∀(t fuel:Nat) (cs:List Value) (d:DataW H) (ps:List MemPlace),eI P τ t [] 0=true→DataW.trod enc P w 0 (fun _=>true) true fuel t cs=some (d,ps)→uD X g w τ cs (bulkD d)) ∧
 (τ.isTy=false→∀(fs:List Field) (off fuel:Nat) (cs:List Value) (xs:List (DataW H×List MemPlace)),eI P τ 0 fs off=true→off+τ.n≤cs.length→xs.length=fs.length →
  (∀(i:Nat) (f:Field),fs[i]?=some f→DataW.trod enc P w 0 (fun _=>true) true fuel f.type ((cs.drop f.offset).take (P.cellsOf f.type))=xs[i]?) →
  uD X g w τ ((cs.drop off).take τ.n) (bulkDs (xs.map (·.1))))
theorem oV(hg:oU g w):∀(τ:Ty),τ.low=true→QU X g w enc P τ
 |.bool,_=>by
   refine⟨fun _ t fuel cs d ps hc h=>?_,fun h=>by cases h⟩;unfold eI lb at hc;split at hc
   ·rename_i ht;obtain⟨b,rfl,he⟩:=DataW.trod_bool ht h;cases he;exact⟨b,trivial,lT (.bool b),rfl⟩
   ·cases hc
 |.int k,_=>by
   refine⟨fun _ t fuel cs d ps hc h=>?_,fun h=>by cases h⟩;unfold eI gB at hc;split at hc
   ·rename_i j ht;have hk:j=k:=by simpa using hc
    subst hk;obtain⟨n,rfl,he,hw⟩:=DataW.trod_int ht h;cases he;exact⟨n,hw,lT (.int j n),rfl⟩
   ·cases hc
 |.str,_=>by
   refine⟨fun _ t fuel cs d ps hc h=>?_,fun h=>by cases h⟩;unfold eI fc at hc;split at hc
   ·rename_i ht;obtain⟨s,rfl,he,hs⟩:=DataW.trod_string ht h;cases he;refine⟨s.data.toList,?_,lT ?_,rfl⟩
    ·exact Nat.le_trans (tu (ii ..)) hs
    ·have:s=⟨s.data.toList.toArray⟩:=by cases s;simp
     show VR X g w (.str s.data.toList) (.string s)
     conv=>rhs;rw[this]
     exact .str _
   ·cases hc
 |.st b,hl=>by
   refine⟨fun _ t fuel cs d ps hc h=>?_,fun h=>by cases h⟩;have hb:=(oV hg b hl).2;unfold eI at hc;split at hc
   ·rename_i fs ht;simp only[aI,beq_iff_eq,fV]at hc;obtain⟨⟨h1,h2⟩,h3⟩:=hc;obtain⟨xs,n,rfl,he,hlen,hxs,hf⟩:=DataW.trod_struct ht h;cases he;obtain⟨x,e1,e2,e3⟩:=hb h2 fs.toList 0 n cs xs h1 (by omega) (by simpa using hxs) (fun i f hi=>hf i f (by simpa using hi));refine⟨x,e1,?_,?_⟩
    ·have:(cs.drop 0).take b.n=cs:=by rw[oM,jX (by omega)]
     rw[this]at e2;exact e2
    ·show b.bulk x+1=bulkDs _+1;rw[e3]
   ·cases hc
 |.unit,_=>by
   refine⟨fun h=>(by cases h),fun _ fs off fuel cs xs hc _ hx _=>?_⟩;unfold eI at hc;have hf:fs=[]:=by simpa using hc
   subst hf;have hx':xs=[]:=by simpa using hx
   subst hx'
   exact⟨(),trivial,⟨by simp[Ty.emb,Ty.n],fun j c u h1 _=>by simp[Ty.emb]at h1⟩,rfl⟩
 |.pair a b,hl=>by
   refine⟨fun h=>(by cases h),fun _ fs off fuel cs xs hc hlen hx hf=>?_⟩;have ha:=(oV hg a rfl).1;have hb:=(oV hg b rfl).2;unfold eI at hc;split at hc
   ·rename_i f fs';simp only[aI,beq_iff_eq,fV]at hc;obtain⟨⟨⟨⟨⟨h1,h2⟩,h3⟩,h4⟩,h5⟩,h6⟩:=hc
    cases xs with
    |nil=>simp at hx
    |cons x xs=>
     have hx0:=hf 0 f rfl;simp only[ik]at hx0;obtain⟨d,ps⟩:=x;rw[h1,h2]at hx0;have hn:(Ty.pair a b).n=a.n+b.n:=rfl;rw[hn]at hlen;obtain⟨y,y1,y2,y3⟩:=ha h3 _ _ _ _ _ h5 hx0;obtain⟨z,z1,z2,z3⟩:=hb h4 fs' (off+a.n) fuel cs xs h6 (by omega) (by simpa using hx) (fun i f' hi=>by have:=hf (i+1) f' (by simpa using hi);simpa using this);refine⟨(y,z),⟨y1,z1⟩,?_,?_⟩
     ·have e:(cs.drop off).take (a.n+b.n)=(cs.drop off).take a.n++(cs.drop (off+a.n)).take b.n:=by
       rw[tm,List.drop_drop]
      rw[hn,e];exact zZ y2 z2
     ·show a.bulk y+b.bulk z=bulkD d+bulkDs _;rw[y3,z3]
   ·cases hc
 |.sl e,hl=>by
   refine⟨fun _ t fuel cs d ps hc h=>?_,fun h=>by cases h⟩;have he:=(oV hg e rfl).1;unfold eI at hc;split at hc
   ·rename_i e' ht;simp only[aI,beq_iff_eq,decide_eq_true_eq]at hc;obtain⟨⟨⟨h1,h2⟩,h3⟩,h4⟩:=hc;rcases DataW.trod_slice ht h with⟨rfl,hx⟩|⟨a,len,cap,cx,rest,n,rfl,rfl,hx,_,hlc,hm,hlen,hel,hspr,_⟩
    ·cases hx;exact⟨none,trivial,lT .nils,rfl⟩
    ·cases hx;obtain⟨hrl,hrest⟩:=hspr rfl;rw[h3]at hel hrest;by_cases hcap0:cap=0
     ·subst hcap0;have hlen0:len=0:=by omega
      subst hlen0;have he0:cx=[]:=by simpa using hlen
      have hr0:rest=[]:=by simpa using hrl
      subst he0;subst hr0;exact⟨some ([],[]),⟨bh _,fun x hx=>by simp at hx,fun x hx=>by simp at hx⟩,lT (.slz a),rfl⟩
     have hspot:a.spot=none:=by
      have hlt:0<(cx++rest).length:=by rw[ak,hlen,hrl];omega
      have hb:(w.cells? 0 (a.add (0*e.n)) e.n).bind (DataW.trod enc P w 0 (fun _=>true) true n e')=(cx++rest)[0]?:=by
       by_cases hil:0<len
       ·rw[hel 0 hil,aw (by omega)]
       ·have:=hrest 0 (by omega);rw[show len+0=0 by omega]at this;rw[this,eH (by omega),hlen]
        congr 1;omega
      rw[bK hlt,QR]at hb;obtain⟨vs,hv1,_⟩:=hb;obtain⟨c1,c2⟩:=zc hv1;have h0:=c2 0 h4;rw[bK (by omega)]at h0;have:=(zd hg h0).1;simpa[Addr.add]using this
     obtain⟨ab,ao,asp⟩:=a;simp only at hspot;subst hspot
     have key:∀(i:Nat),i<cap→∃vs d ps,w.cells? 0 (Addr.add ⟨ab,ao,none⟩ (i*e.n)) e.n=some vs∧(cx++rest)[i]?=some (d,ps)∧uD X g w e vs (bulkD d):=by
      intro i hi
      have hb:(w.cells? 0 (Addr.add ⟨ab,ao,none⟩ (i*e.n)) e.n).bind (DataW.trod enc P w 0 (fun _=>true) true n e')=(cx++rest)[i]?:=by
       by_cases hil:i<len
       ·rw[hel i hil,aw (by omega)]
       ·have:=hrest (i-len) (by omega);rw[show len+(i-len)=i by omega]at this;rw[this,eH (by omega),hlen]
      have hlt:i<(cx++rest).length:=by rw[ak,hlen,hrl];omega
      rw[bK hlt,QR]at hb;obtain⟨vs,hv1,hv2⟩:=hb;obtain⟨⟨d,ps⟩,hq⟩:∃q,(cx++rest)[i]=q:=⟨_,rfl⟩;rw[hq]at hv2;exact⟨vs,d,ps,hv1,by rw[bK hlt,hq],he h2 e' n vs d ps h1 hv2⟩
     have pick:∀(l:List (DataW H×List MemPlace)) (k:Nat),(∀i,i<l.length→(cx++rest)[k+i]?=l[i]?)→k+l.length≤cap →
       ∃xs:List e.den,xs.length=l.length∧(∀x∈xs,e.wf x)∧(xs.map e.bulk).sum=bulkDs (l.map (·.1)) ∧
        ∀i x,xs[i]?=some x→∃vs,w.cells? 0 (Addr.add ⟨ab,ao,none⟩ ((k+i)*e.n)) e.n=some vs∧kK X g w (e.emb x) vs:=by
      intro l
      induction l with
      |nil=>exact fun k _ _=>⟨[],rfl,fun x hx=>by simp at hx,rfl,fun i x hi=>by simp at hi⟩
      |cons q l ih=>
       intro k hk hkc;simp only[bE]at hkc;obtain⟨xs,x1,x2,x3,x4⟩:=ih (k+1) (fun i hi=>by have:=hk (i+1) (by simpa using hi);rw[show k+1+i=k+(i+1)by omega,this];simp) (by omega);obtain⟨vs,d,ps,v1,v2,x,v3,v4,v5⟩:=key k (by omega);have hq:=hk 0 (by simp);rw[eo,v2]at hq;simp only[ik,ae]at hq;subst hq;refine⟨x::xs,by simp[x1],?_,?_,?_⟩
       ·intro y hy;rcases cY.1 hy with rfl|hy
        ·exact v3
        ·exact x2 y hy
       ·simp only[cB,tk,bulkDs];rw[v5,x3]
       ·intro i y hi
        cases i with
        |zero=>
         simp only[ik,ae]at hi;subst hi
         exact⟨vs,by simpa using v1,v4⟩
        |succ i=>
         simp only[tZ]at hi;obtain⟨us,u1,u2⟩:=x4 i y hi;exact⟨us,by rw[show k+(i+1)=k+1+i by omega];exact u1,u2⟩
     obtain⟨xs,x1,x2,x3,x4⟩:=pick cx 0 (fun i hi=>by rw[cd,aw hi]) (by omega);obtain⟨ys,y1,y2,y3,y4⟩:=pick rest len (fun i hi=>by rw[eH (by omega)];congr 1;omega) (by omega);refine⟨some (xs,ys),⟨by rw[x1,y1,hlen,hrl];omega,x2,y2⟩,lT ?_,?_⟩
     ·have hxl:xs.length=len:=by rw[x1,hlen]
      have hyl:ys.length=cap-len:=by rw[y1,hrl]
      let us:Nat→Value:=fun j=>(w.cell? ⟨ab,ao+j,none⟩).getD undef
      have hall:∀i x,(xs++ys)[i]?=some x→∃vs,w.cells? 0 (Addr.add ⟨ab,ao,none⟩ (i*e.n)) e.n=some vs∧kK X g w (e.emb x) vs:=by
       intro i x hi;by_cases hil:i<len
       ·rw[aw (by omega)]at hi;obtain⟨vs,v1,v2⟩:=x4 i x hi;exact⟨vs,by simpa using v1,v2⟩
       ·rw[eH (by omega)]at hi;obtain⟨vs,v1,v2⟩:=y4 _ x hi;exact⟨vs,by rw[show len+(i-xs.length)=i by omega]at v1;exact v1,v2⟩
      have hcell:∀i x r,(xs++ys)[i]?=some x→r<e.n→∃u,w.cell? ⟨ab,ao+(i*e.n+r),none⟩=some u∧∀c,(e.emb x)[r]?=some c→VR X g w c u:=by
       intro i x r hi hr;obtain⟨vs,v1,v2⟩:=hall i x hi;obtain⟨c1,c2⟩:=zc v1;have hc2:=c2 r hr;rw[QT]at hc2;have hrl:r<vs.length:=by omega
       exact⟨vs[r],by rw[hc2,bK hrl],fun c hc=>v2.2 r c _ hc (bK hrl)⟩
      have htot:(xs++ys).length=cap:=by rw[ak,hxl,hyl];omega
      have hmap:(xs.map (fun x=>kJ e (e.emb x))++ys.map (fun x=>kJ e (e.emb x))).flatMap PV.cells=(xs++ys).flatMap e.emb:=by
       rw[←dp,List.flatMap_map]
       congr 1
       funext x;exact uC h2 x
      have hcells:∀j,j<cap*e.n→∃u,w.cell? ⟨ab,ao+j,none⟩=some u∧∀c,((xs++ys).flatMap e.emb)[j]?=some c→VR X g w c u:=by
       intro j hj;have hi:j/e.n<cap:=by rw[mq h4];exact hj
       have hr:j%e.n<e.n:=io _ h4;have hij:j/e.n*e.n+j%e.n=j:=by rw[mr];exact qn _ _
       have hlt:j/e.n<(xs++ys).length:=by omega
       obtain⟨u,u1,u2⟩:=hcell (j/e.n) _ (j%e.n) (bK hlt) hr;rw[hij]at u1;refine⟨u,u1,fun c hc=>?_⟩;obtain⟨i,r,x,q1,q2,q3,q4⟩:=zb (sz:=e.n) (fun x _=>mu e x) hc
       have hq:i=j/e.n:=by
        rw[q1];rw[gL,Nat.add_mul_div_right _ _ h4,Nat.div_eq_of_lt q2];omega
       have hq2:r=j%e.n:=by
        rw[q1,gL,Nat.add_mul_mod_self_right,ge q2]
       subst hq2;rw[hq,bK hlt]at q3;cases q3;exact u2 c q4
      have hpub:ao+cap*e.n≤g.pub ab∨cap=0:=by
       by_cases h0:cap=0
       ·exact .inr h0
       ·left;have hpos:0<cap*e.n:=Nat.mul_pos (by omega) h4;obtain⟨u,u1,_⟩:=hcells (cap*e.n-1) (by omega);have:=(zd hg u1).2;simp only at this;omega
      have hz:(xs.map fun x=>kJ e (e.emb x)).length=len:=by simp[hxl]
      have hr:=VR.sl (X:=X) (g:=g) (w:=w) none (xs.map fun x=>kJ e (e.emb x)) (ys.map fun x=>kJ e (e.emb x)) ab ao cap e.n us (by simp[hxl,hyl];omega) h4
       (fun v hv=>by
        rw[←dp]at hv;obtain⟨x,_,rfl⟩:=List.mem_map.1 hv;have:=uC h2 x;unfold Ty.pv at this;rw[this,mu])
       (by
        rcases hpub with hp|hp
        ·simp[hxl,hyl];rw[show len+(cap-len)=cap by omega];exact hp
        ·simp[hxl,hyl];omega)
       (fun j hj=>by
        simp[hxl,hyl]at hj;rw[show len+(cap-len)=cap by omega]at hj;obtain⟨u,u1,_⟩:=hcells j hj;simp only[us];rw[u1];rfl)
       (fun j c hc=>by
        rw[hmap]at hc
        have hj:j<cap*e.n:=by
         have:=(aL.1 hc).1;rw[za (sz:=e.n) (fun x _=>mu e x),htot]at this;exact this
        obtain⟨u,u1,u2⟩:=hcells j hj;have:us j=u:=by simp only[us];rw[u1];rfl
        rw[this];exact u2 c hc)
       (fun id q hq=>by cases hq)
       (fun v hv=>by
        rw[←dp]at hv;obtain⟨x,_,rfl⟩:=List.mem_map.1 hv;have:=uC h2 x;unfold Ty.pv at this;rw[this];exact qo e x)
      rw[hz]at hr;exact hr
     ·show(xs.map e.bulk).sum+(ys.map e.bulk).sum+1=bulkDs _+bulkDs _+1;rw[x3,y3]
   ·cases hc
end
end Ps
