/- A law's row from what the law comes to in the pure semantics. -/
import Derived.Test.YtpjmpaidcidjgaaGreatDoorCXKw
import Derived.Test.YtpjmpaidcidjgaaGreatDoorSimVKw
import Derived.Test.YtpjmpaidcidjgaaGreatDoorAbbKw
import Derived.Test.YtpjmpaidcidjgaaGreatDoorExtMKw
import Derived.ChangeArms
import Derived.WideKeyArgs
import Derived.ProofKit
import Derived.OpenShut
import Derived.JoinedCond
set_option linter.defProp false
namespace Ps
open Go Go.Proofs
def XZ:tie.P.funcs[tie.fnOf 338]?=some Tryz.f76:=Tryz.func76
def Xa:fW tie Tryz.f76 Cj=true:=by kernel_rfl
def Xb:tie.P.funcs[tie.fnOf 337]?=some Tryz.f75:=Tryz.func75
def Xc:fW tie Tryz.f75 Cl=true:=by kernel_rfl
def Xd:tie.P.funcs[tie.fnOf 336]?=some Tryz.f74:=Tryz.func74
def Xe:fW tie Tryz.f74 Ck=true:=by kernel_rfl
def Xf:tie.P.funcs[tie.fnOf 265]?=some Tryz.f45:=Tryz.func45
def Xg:lm tie Tryz.f45 Cm=true:=by kernel_rfl
def Xh:tie.P.funcs[tie.fnOf 160]?=some Tryz.f37:=Tryz.func37
def Xi:fW tie Tryz.f37 Cn=true:=by kernel_rfl
def Xj:tie.P.funcs[tie.fnOf 271]?=some Tryz.f69:=Tryz.func69
def Xk:fW tie Tryz.f69 Co=true:=by kernel_rfl
def func162:tie.P.funcs[tie.fnOf 162]?=some Tryz.f39:=Tryz.func39
def Xl:fW tie Tryz.f39 Cp=true:=by kernel_rfl
def Xm:tie.P.funcs[tie.fnOf 163]?=some Tryz.f41:=Tryz.func41
def Xn:fW tie Tryz.f41 Cq=true:=by kernel_rfl
def Xo:tie.P.funcs[tie.fnOf 66]?=some Tryz.f14:=Tryz.func14
def Xp:lm tie Tryz.f14 Cr=true:=by kernel_rfl
end Ps
namespace Ps
open Go
inductive Ty where
 |bool|int (k:IntKind)|str|sl (e:Ty)|st (b:Ty)|unit|pair (a b:Ty)
def Ty.den:Ty→Type
 |.bool=>Bool
 |.int _=>Int
 |.str=>List UInt8
 |.sl e=>Option (List e.den×List e.den)
 |.st b=>b.den
 |.unit=>Unit
 |.pair a b=>a.den×b.den
def Ty.n:Ty→Nat
 |.unit=>0
 |.pair a b=>a.n+b.n
 |.st b=>b.n
 |_=>1
def Ty.isTy:Ty→Bool
 |.unit|.pair ..=>false
 |_=>true
def kg(t:Ty)(cs:List PV):PV:=match t with|.st _=>.agg cs|_=>cs.headD .und
def Ty.emb:(t:Ty)→t.den→List PV
 |.bool,b=>[.bool b]
 |.int k,n=>[.int k n]
 |.str,s=>[.str s]
 |.sl _,none=>[.nils]
 |.sl e,some (es,sp)=>[.sl none (es.map fun x=>kg e (e.emb x)) (sp.map fun x=>kg e (e.emb x))]
 |.st b,x=>b.emb x
 |.unit,_=>[]
 |.pair a b,(x,y)=>a.emb x++b.emb y
def Ty.pv(t:Ty)(x:t.den):PV:=kg t (t.emb x)
def Ty.wf:(t:Ty)→t.den→Prop
 |.bool,_=>True
 |.int k,n=>(Lit.int k n).wf=true
 |.str,s=>s.length≤maxLen
 |.sl _,none=>True
 |.sl e,some (es,sp)=>es.length+sp.length≤maxLen∧(∀x∈es,e.wf x)∧∀x∈sp,e.wf x
 |.st b,x=>b.wf x
 |.unit,_=>True
 |.pair a b,(x,y)=>a.wf x∧b.wf y
def Ty.bulk:(t:Ty)→t.den→Nat
 |.bool,_=>1
 |.int _,_=>1
 |.str,s=>s.length+1
 |.sl _,none=>1
 |.sl e,some (es,sp)=>(es.map e.bulk).sum+(sp.map e.bulk).sum+1
 |.st b,x=>b.bulk x+1
 |.unit,_=>0
 |.pair a b,(x,y)=>a.bulk x+b.bulk y
def eo(P:Program):Ty→TypeId→List Field→Nat→Bool
 |.bool,t,_,_=>mO P t
 |.int k,t,_,_=>gi P t k
 |.str,t,_,_=>gM P t
 |.sl e,t,_,_=>match P.underlying t with|some (.slice e')=>eo P e e' [] 0&&e.isTy&&P.cellsOf e'==e.n&&decide (0<e.n)|_=>false
 |.st b,t,_,_=>match P.underlying t with|some (.struct fs)=>eo P b 0 fs.toList 0 && !b.isTy&&P.cellsOf t==b.n|_=>false
 |.unit,_,fs,_=>fs.isEmpty
 |.pair a b,_,fs,off=>match fs with
  |f::fs'=>f.offset==off&&P.cellsOf f.type==a.n&&a.isTy && !b.isTy&&eo P a f.type [] 0&&eo P b 0 fs' (off+a.n)
  | []=>false
mutual
def bulkD{H:Type}:DataW H→Nat
 |.lit (.string bytes)=>bytes.length+1
 |.lit _=>1
 |.nil=>1
 |.ptr d=>bulkD d+1
 |.slice cA spare=>bulkDs cA+bulkDs spare+1
 |.agg parts=>bulkDs parts+1
 |.iface _ d=>bulkD d+1
 |.map _=>1
 |.held _=>1
def bulkDs{H:Type}:List (DataW H)→Nat
 | []=>0
 |d::r=>bulkD d+bulkDs r
end
theorem nf:∀(t:Ty) (x:t.den),(t.emb x).length=t.n
 |.bool,_=>rfl
 |.int _,_=>rfl
 |.str,_=>rfl
 |.sl _,none=>rfl
 |.sl _,some (_,_)=>rfl
 |.st b,x=>nf b x
 |.unit,_=>rfl
 |.pair a b,(x,y)=>by
  show(a.emb x++b.emb y).length=a.n+b.n;rw[aZ,nf a x,nf b y]
theorem sM:∀(t:Ty) (x:t.den),(t.emb x).all PV.one=true
 |.bool,_=>rfl
 |.int _,_=>rfl
 |.str,_=>rfl
 |.sl _,none=>rfl
 |.sl _,some (_,_)=>rfl
 |.st b,x=>sM b x
 |.unit,_=>rfl
 |.pair a b,(x,y)=>by
  show(a.emb x++b.emb y).all PV.one=true;rw[Aq,sM a x,sM b y];rfl
theorem vw{t:Ty}(h:t.isTy=true)(x:t.den):(t.pv x).cells=t.emb x:=by
 cases t with
 |bool=>rfl
 |int k=>rfl
 |str=>rfl
 |sl e=>cases x with|none=>rfl|some q=>obtain⟨a,b⟩:=q;rfl
 |st b=>rfl
 |unit=>cases h
 |pair a b=>cases h
def kh(X:Tie)(g:Gh)(w:World)(cs:List PV)(us:List Value):Prop:=
 cs.length=us.length∧∀(j:Nat) (c:PV) (u:Value),cs[j]?=some c→us[j]?=some u→VR X g w c u
theorem mF{X:Tie}{g:Gh}{w:World}{c:PV}{u:Value}(h:VR X g w c u):kh X g w [c] [u]:=by
 refine⟨rfl,fun j a b h1 h2=>?_⟩
 cases j with
 |zero=>simp at h1 h2;subst h1;subst h2;exact h
 |succ j=>simp at h1
theorem BG{X:Tie}{g:Gh}{w:World}{cs ds:List PV}{us vs:List Value}(h:kh X g w cs us)(k:kh X g w ds vs):kh X g w (cs++ds) (us++vs):=by
 refine⟨by simp[h.1,k.1],fun j c u h1 h2=>?_⟩;by_cases hj:j<cs.length
 ·rw[bF hj]at h1;rw[bF (by rw[←h.1];exact hj)]at h2;exact h.2 j c u h1 h2
 ·rw[eJ (by omega)]at h1;rw[eJ (by rw[←h.1];omega),←h.1]at h2;exact k.2 _ c u h1 h2
theorem BH{α β:Type}{f:α→List β}{sz:Nat}:∀{l:List α},(∀x∈l,(f x).length=sz)→(l.flatMap f).length=l.length*sz
 | [],_=>by simp
 |a::l,h=>by
  rw[dC,aZ,h a (by simp),BH (fun x hx=>h x (by simp[hx])),bE,Nat.succ_mul];omega
theorem BI{α β:Type}{f:α→List β}{sz:Nat}:∀{l:List α},(∀x∈l,(f x).length=sz)→∀{j:Nat} {c:β},(l.flatMap f)[j]?=some c→∃i r x,j=i*sz+r∧r<sz∧l[i]?=some x∧(f x)[r]?=some c
 | [],_,j,c,h=>by simp at h
 |a::l,hs,j,c,h=>by
  rw[dC]at h;have ha:=hs a (by simp);by_cases hj:j<sz
  ·rw[bF (by omega)]at h;exact⟨0,j,a,by omega,hj,rfl,h⟩
  ·rw[eJ (by omega),ha]at h;obtain⟨i,r,x,e1,e2,e3,e4⟩:=BI (l:=l) (fun x hx=>hs x (by simp[hx])) h;refine⟨i+1,r,x,?_,e2,by simpa using e3,e4⟩;rw[Nat.succ_mul];omega
section
variable {X : Tie} {g : Gh} {w : World} {H : Type} {enc : TypeId × Value → H} {P : Program}
def TH(g:Gh)(cs:List Value):Prop:=∀a l c,Value.slice (some a) l c∈cs→a.spot=none∧a.off≤g.pub a.block
def Ty.low(_:Ty):Bool:=true
theorem BJ{base:Nat}{a:Addr}{n:Nat}{vs:List Value}(h:w.cells? base a n=some vs):vs.length=n∧∀j,j<n→w.cell? (a.add j)=vs[j]?:=by
 unfold World.cells? at h;split at h
 ·exact⟨by simpa using mapM_some_length h,fun j hj=>mapM_some_get h j j (by simp[hj])⟩
 ·cases h
def pS(g:Gh)(w:World):Prop:=∀(b:Nat) (us:Array Value) (t:TypeId) (fz:Nat×Nat),w.heap[b]?=some (.cells us t fz)→us.size≤g.pub b
theorem BK{a:Addr}{v:Value}(hg:pS g w)(h:w.cell? a=some v):a.spot=none∧a.off<g.pub a.block:=by
 unfold World.cell? at h;split at h
 ·rename_i us t fz he;obtain⟨t1,t2⟩:=fz;split at h
  ·cases h
  ·rename_i hs;have:=(cD.1 h).1;exact⟨by simpa using hs,jU this (hg _ _ _ _ he)⟩
 ·cases h
theorem TI(b o i j:Nat):(Addr.add ⟨b,o,none⟩ i).add j=⟨b,o+(i+j),none⟩:=by
 unfold Addr.add;by_cases hi:i=0<;>by_cases hj:j=0<;>simp[hi,hj]<;>omega
def vy(X:Tie)(g:Gh)(w:World)(t:Ty)(cs:List Value)(d:Nat):Prop:=∃x:t.den,t.wf x∧kh X g w (t.emb x) cs∧t.bulk x=d
def TJ(X:Tie)(g:Gh)(w:World){H:Type}(enc:TypeId×Value→H)(P:Program) (τ:Ty):Prop:=
 (τ.isTy=true→∀(t fuel:Nat) (cs:List Value) (d:DataW H) (ps:List MemPlace),eo P τ t [] 0=true→DataW.trod enc P w 0 (fun _=>true) true fuel t cs=some (d,ps)→vy X g w τ cs (bulkD d)) ∧
 (τ.isTy=false→∀(fs:List Field) (off fuel:Nat) (cs:List Value) (xs:List (DataW H×List MemPlace)),eo P τ 0 fs off=true→off+τ.n≤cs.length→xs.length=fs.length →
  (∀(i:Nat) (f:Field),fs[i]?=some f→DataW.trod enc P w 0 (fun _=>true) true fuel f.type ((cs.drop f.offset).take (P.cellsOf f.type))=xs[i]?) →
  vy X g w τ ((cs.drop off).take τ.n) (bulkDs (xs.map (·.1))))
theorem pT(hg:pS g w):∀(τ:Ty),τ.low=true→TJ X g w enc P τ
 |.bool,_=>by
   refine⟨fun _ t fuel cs d ps hc h=>?_,fun h=>by cases h⟩;unfold eo mO at hc;split at hc
   ·rename_i ht;obtain⟨b,rfl,he⟩:=DataW.trod_bool ht h;cases he;exact⟨b,trivial,mF (.bool b),rfl⟩
   ·cases hc
 |.int k,_=>by
   refine⟨fun _ t fuel cs d ps hc h=>?_,fun h=>by cases h⟩;unfold eo gi at hc;split at hc
   ·rename_i j ht;have hk:j=k:=by simpa using hc
    subst hk;obtain⟨n,rfl,he,hw⟩:=DataW.trod_int ht h;cases he;exact⟨n,hw,mF (.int j n),rfl⟩
   ·cases hc
 |.str,_=>by
   refine⟨fun _ t fuel cs d ps hc h=>?_,fun h=>by cases h⟩;unfold eo gM at hc;split at hc
   ·rename_i ht;obtain⟨s,rfl,he,hs⟩:=DataW.trod_string ht h;cases he;refine⟨s.data.toList,?_,mF ?_,rfl⟩
    ·exact Nat.le_trans (vn (jR ..)) hs
    ·have:s=⟨s.data.toList.toArray⟩:=by cases s;simp
     show VR X g w (.str s.data.toList) (.string s)
     conv=>rhs;rw[this]
     exact .str _
   ·cases hc
 |.st b,hl=>by
   refine⟨fun _ t fuel cs d ps hc h=>?_,fun h=>by cases h⟩;have hb:=(pT hg b hl).2;unfold eo at hc;split at hc
   ·rename_i fs ht;simp only[aJ,beq_iff_eq,fy]at hc;obtain⟨⟨h1,h2⟩,h3⟩:=hc;obtain⟨xs,n,rfl,he,hlen,hxs,hf⟩:=DataW.trod_struct ht h;cases he;obtain⟨x,e1,e2,e3⟩:=hb h2 fs.toList 0 n cs xs h1 (by omega) (by simpa using hxs) (fun i f hi=>hf i f (by simpa using hi));refine⟨x,e1,?_,?_⟩
    ·have:(cs.drop 0).take b.n=cs:=by rw[pH,jz (by omega)]
     rw[this]at e2;exact e2
    ·show b.bulk x+1=bulkDs _+1;rw[e3]
   ·cases hc
 |.unit,_=>by
   refine⟨fun h=>(by cases h),fun _ fs off fuel cs xs hc _ hx _=>?_⟩;unfold eo at hc;have hf:fs=[]:=by simpa using hc
   subst hf;have hx':xs=[]:=by simpa using hx
   subst hx'
   exact⟨(),trivial,⟨by simp[Ty.emb,Ty.n],fun j c u h1 _=>by simp[Ty.emb]at h1⟩,rfl⟩
 |.pair a b,hl=>by
   refine⟨fun h=>(by cases h),fun _ fs off fuel cs xs hc hlen hx hf=>?_⟩;have ha:=(pT hg a rfl).1;have hb:=(pT hg b rfl).2;unfold eo at hc;split at hc
   ·rename_i f fs';simp only[aJ,beq_iff_eq,fy]at hc;obtain⟨⟨⟨⟨⟨h1,h2⟩,h3⟩,h4⟩,h5⟩,h6⟩:=hc
    cases xs with
    |nil=>simp at hx
    |cons x xs=>
     have hx0:=hf 0 f rfl;simp only[kf]at hx0;obtain⟨d,ps⟩:=x;rw[h1,h2]at hx0;have hn:(Ty.pair a b).n=a.n+b.n:=rfl;rw[hn]at hlen;obtain⟨y,y1,y2,y3⟩:=ha h3 _ _ _ _ _ h5 hx0;obtain⟨z,z1,z2,z3⟩:=hb h4 fs' (off+a.n) fuel cs xs h6 (by omega) (by simpa using hx) (fun i f' hi=>by have:=hf (i+1) f' (by simpa using hi);simpa using this);refine⟨(y,z),⟨y1,z1⟩,?_,?_⟩
     ·have e:(cs.drop off).take (a.n+b.n)=(cs.drop off).take a.n++(cs.drop (off+a.n)).take b.n:=by
       rw[vi,List.drop_drop]
      rw[hn,e];exact BG y2 z2
     ·show a.bulk y+b.bulk z=bulkD d+bulkDs _;rw[y3,z3]
   ·cases hc
 |.sl e,hl=>by
   refine⟨fun _ t fuel cs d ps hc h=>?_,fun h=>by cases h⟩;have he:=(pT hg e rfl).1;unfold eo at hc;split at hc
   ·rename_i e' ht;simp only[aJ,beq_iff_eq,decide_eq_true_eq]at hc;obtain⟨⟨⟨h1,h2⟩,h3⟩,h4⟩:=hc;rcases DataW.trod_slice ht h with⟨rfl,hx⟩|⟨a,len,cap,cA,rest,n,rfl,rfl,hx,_,hlc,hm,hlen,hel,hspr,_⟩
    ·cases hx;exact⟨none,trivial,mF .nils,rfl⟩
    ·cases hx;obtain⟨hrl,hrest⟩:=hspr rfl;rw[h3]at hel hrest;by_cases hcap0:cap=0
     ·subst hcap0;have hlen0:len=0:=by omega
      subst hlen0;have he0:cA=[]:=by simpa using hlen
      have hr0:rest=[]:=by simpa using hrl
      subst he0;subst hr0;exact⟨some ([],[]),⟨bb _,fun x hx=>by simp at hx,fun x hx=>by simp at hx⟩,mF (.slz a),rfl⟩
     have hspot:a.spot=none:=by
      have hlt:0<(cA++rest).length:=by rw[aZ,hlen,hrl];omega
      have hb:(w.cells? 0 (a.add (0*e.n)) e.n).bind (DataW.trod enc P w 0 (fun _=>true) true n e')=(cA++rest)[0]?:=by
       by_cases hil:0<len
       ·rw[hel 0 hil,bF (by omega)]
       ·have:=hrest 0 (by omega);rw[show len+0=0 by omega]at this;rw[this,eJ (by omega),hlen]
        congr 1;omega
      rw[bX hlt,TG]at hb;obtain⟨vs,hv1,_⟩:=hb;obtain⟨c1,c2⟩:=BJ hv1;have h0:=c2 0 h4;rw[bX (by omega)]at h0;have:=(BK hg h0).1;simpa[Addr.add]using this
     obtain⟨ab,ao,asp⟩:=a;simp only at hspot;subst hspot
     have key:∀(i:Nat),i<cap→∃vs d ps,w.cells? 0 (Addr.add ⟨ab,ao,none⟩ (i*e.n)) e.n=some vs∧(cA++rest)[i]?=some (d,ps)∧vy X g w e vs (bulkD d):=by
      intro i hi
      have hb:(w.cells? 0 (Addr.add ⟨ab,ao,none⟩ (i*e.n)) e.n).bind (DataW.trod enc P w 0 (fun _=>true) true n e')=(cA++rest)[i]?:=by
       by_cases hil:i<len
       ·rw[hel i hil,bF (by omega)]
       ·have:=hrest (i-len) (by omega);rw[show len+(i-len)=i by omega]at this;rw[this,eJ (by omega),hlen]
      have hlt:i<(cA++rest).length:=by rw[aZ,hlen,hrl];omega
      rw[bX hlt,TG]at hb;obtain⟨vs,hv1,hv2⟩:=hb;obtain⟨⟨d,ps⟩,hq⟩:∃q,(cA++rest)[i]=q:=⟨_,rfl⟩;rw[hq]at hv2;exact⟨vs,d,ps,hv1,by rw[bX hlt,hq],he h2 e' n vs d ps h1 hv2⟩
     have pick:∀(l:List (DataW H×List MemPlace)) (k:Nat),(∀i,i<l.length→(cA++rest)[k+i]?=l[i]?)→k+l.length≤cap →
       ∃xs:List e.den,xs.length=l.length∧(∀x∈xs,e.wf x)∧(xs.map e.bulk).sum=bulkDs (l.map (·.1)) ∧
        ∀i x,xs[i]?=some x→∃vs,w.cells? 0 (Addr.add ⟨ab,ao,none⟩ ((k+i)*e.n)) e.n=some vs∧kh X g w (e.emb x) vs:=by
      intro l
      induction l with
      |nil=>exact fun k _ _=>⟨[],rfl,fun x hx=>by simp at hx,rfl,fun i x hi=>by simp at hi⟩
      |cons q l ih=>
       intro k hk hkc;simp only[bE]at hkc;obtain⟨xs,x1,x2,x3,x4⟩:=ih (k+1) (fun i hi=>by have:=hk (i+1) (by simpa using hi);rw[show k+1+i=k+(i+1)by omega,this];simp) (by omega);obtain⟨vs,d,ps,v1,v2,x,v3,v4,v5⟩:=key k (by omega);have hq:=hk 0 (by simp);rw[fX,v2]at hq;simp only[kf,aw]at hq;subst hq;refine⟨x::xs,by simp[x1],?_,?_,?_⟩
       ·intro y hy;rcases cQ.1 hy with rfl|hy
        ·exact v3
        ·exact x2 y hy
       ·simp only[cV,vh,bulkDs];rw[v5,x3]
       ·intro i y hi
        cases i with
        |zero=>
         simp only[kf,aw]at hi;subst hi
         exact⟨vs,by simpa using v1,v4⟩
        |succ i=>
         simp only[Ax]at hi;obtain⟨us,u1,u2⟩:=x4 i y hi;exact⟨us,by rw[show k+(i+1)=k+1+i by omega];exact u1,u2⟩
     obtain⟨xs,x1,x2,x3,x4⟩:=pick cA 0 (fun i hi=>by rw[cy,bF hi]) (by omega);obtain⟨ys,y1,y2,y3,y4⟩:=pick rest len (fun i hi=>by rw[eJ (by omega)];congr 1;omega) (by omega);refine⟨some (xs,ys),⟨by rw[x1,y1,hlen,hrl];omega,x2,y2⟩,mF ?_,?_⟩
     ·have hxl:xs.length=len:=by rw[x1,hlen]
      have hyl:ys.length=cap-len:=by rw[y1,hrl]
      let us:Nat→Value:=fun j=>(w.cell? ⟨ab,ao+j,none⟩).getD undef
      have hall:∀i x,(xs++ys)[i]?=some x→∃vs,w.cells? 0 (Addr.add ⟨ab,ao,none⟩ (i*e.n)) e.n=some vs∧kh X g w (e.emb x) vs:=by
       intro i x hi;by_cases hil:i<len
       ·rw[bF (by omega)]at hi;obtain⟨vs,v1,v2⟩:=x4 i x hi;exact⟨vs,by simpa using v1,v2⟩
       ·rw[eJ (by omega)]at hi;obtain⟨vs,v1,v2⟩:=y4 _ x hi;exact⟨vs,by rw[show len+(i-xs.length)=i by omega]at v1;exact v1,v2⟩
      have hcell:∀i x r,(xs++ys)[i]?=some x→r<e.n→∃u,w.cell? ⟨ab,ao+(i*e.n+r),none⟩=some u∧∀c,(e.emb x)[r]?=some c→VR X g w c u:=by
       intro i x r hi hr;obtain⟨vs,v1,v2⟩:=hall i x hi;obtain⟨c1,c2⟩:=BJ v1;have hc2:=c2 r hr;rw[TI]at hc2;have hrl:r<vs.length:=by omega
       exact⟨vs[r],by rw[hc2,bX hrl],fun c hc=>v2.2 r c _ hc (bX hrl)⟩
      have htot:(xs++ys).length=cap:=by rw[aZ,hxl,hyl];omega
      have hmap:(xs.map (fun x=>kg e (e.emb x))++ys.map (fun x=>kg e (e.emb x))).flatMap PV.cells=(xs++ys).flatMap e.emb:=by
       rw[←dS,List.flatMap_map]
       congr 1
       funext x;exact vw h2 x
      have hcells:∀j,j<cap*e.n→∃u,w.cell? ⟨ab,ao+j,none⟩=some u∧∀c,((xs++ys).flatMap e.emb)[j]?=some c→VR X g w c u:=by
       intro j hj;have hi:j/e.n<cap:=by rw[nb h4];exact hj
       have hr:j%e.n<e.n:=kB _ h4;have hij:j/e.n*e.n+j%e.n=j:=by rw[nc];exact sK _ _
       have hlt:j/e.n<(xs++ys).length:=by omega
       obtain⟨u,u1,u2⟩:=hcell (j/e.n) _ (j%e.n) (bX hlt) hr;rw[hij]at u1;refine⟨u,u1,fun c hc=>?_⟩;obtain⟨i,r,x,q1,q2,q3,q4⟩:=BI (sz:=e.n) (fun x _=>nf e x) hc
       have hq:i=j/e.n:=by
        rw[q1];rw[jT,Nat.add_mul_div_right _ _ h4,Nat.div_eq_of_lt q2];omega
       have hq2:r=j%e.n:=by
        rw[q1,jT,Nat.add_mul_mod_self_right,kA q2]
       subst hq2;rw[hq,bX hlt]at q3;cases q3;exact u2 c q4
      have hpub:ao+cap*e.n≤g.pub ab∨cap=0:=by
       by_cases h0:cap=0
       ·exact .inr h0
       ·left;have hpos:0<cap*e.n:=Nat.mul_pos (by omega) h4;obtain⟨u,u1,_⟩:=hcells (cap*e.n-1) (by omega);have:=(BK hg u1).2;simp only at this;omega
      have hz:(xs.map fun x=>kg e (e.emb x)).length=len:=by simp[hxl]
      have hr:=VR.sl (X:=X) (g:=g) (w:=w) none (xs.map fun x=>kg e (e.emb x)) (ys.map fun x=>kg e (e.emb x)) ab ao cap e.n us (by simp[hxl,hyl];omega) h4
       (fun v hv=>by
        rw[←dS]at hv;obtain⟨x,_,rfl⟩:=List.mem_map.1 hv;have:=vw h2 x;unfold Ty.pv at this;rw[this,nf])
       (by
        rcases hpub with hp|hp
        ·simp[hxl,hyl];rw[show len+(cap-len)=cap by omega];exact hp
        ·simp[hxl,hyl];omega)
       (fun j hj=>by
        simp[hxl,hyl]at hj;rw[show len+(cap-len)=cap by omega]at hj;obtain⟨u,u1,_⟩:=hcells j hj;simp only[us];rw[u1];rfl)
       (fun j c hc=>by
        rw[hmap]at hc
        have hj:j<cap*e.n:=by
         have:=(aO.1 hc).1;rw[BH (sz:=e.n) (fun x _=>nf e x),htot]at this;exact this
        obtain⟨u,u1,u2⟩:=hcells j hj;have:us j=u:=by simp only[us];rw[u1];rfl
        rw[this];exact u2 c hc)
       (fun id q hq=>by cases hq)
       (fun v hv=>by
        rw[←dS]at hv;obtain⟨x,_,rfl⟩:=List.mem_map.1 hv;have:=vw h2 x;unfold Ty.pv at this;rw[this];exact sM e x)
      rw[hz]at hr;exact hr
     ·show(xs.map e.bulk).sum+(ys.map e.bulk).sum+1=bulkDs _+bulkDs _+1;rw[x3,y3]
   ·cases hc
end
end Ps
namespace Ps
open Go Go.ChangeShapes Go.WideShapes Go.ChangeAt Go.RowKit
def lN:List Ty→Type
 | []=>Unit
 |t::ts=>t.den×lN ts
def lO:(ts:List Ty)→lN ts→List PV
 | [],_=>[]
 |t::ts,(x,xs)=>t.pv x::lO ts xs
def rE:(ts:List Ty)→lN ts→Prop
 | [],_=>True
 |t::ts,(x,xs)=>t.wf x∧rE ts xs
def oT:(ts:List Ty)→lN ts→Nat
 | [],_=>0
 |t::ts,(x,xs)=>t.bulk x+oT ts xs
def jG(P:Program):List Ty→List TypeId→Bool
 | [],[]=>true
 |τ::τs,t::ts=>eo P τ t [] 0&&τ.isTy&&τ.low&&P.readableRec t&&decide (t<P.types.size)&&jG P τs ts
 |_,_=>false
section
variable {X : Tie} {g : Gh} {W W' : World} {H : Type} {enc : TypeId × Value → H} {P : Program}
def oU:List Value→Nat
 | []=>0
 |.slice (some a) _ _::l=>a.off+oU l
 |_::l=>oU l
theorem zD{a:Addr}{n c:Nat}:∀{l:List Value},Value.slice (some a) n c∈l→a.off≤oU l
 | [],h=>by simp at h
 |v::l,h=>by
  rcases cQ.1 h with rfl|h
  ·simp only[oU];omega
  ·have:=zD h
   cases v with
   |slice b _ _=>cases b<;>simp only[oU]<;>omega
   |_=>exact this
def QY(args:List Value):Nat:=oU (args.flatMap fun v=>v.cells.toList)
def io(W:World)(k:Nat)(b:Nat):Nat:=match W.heap[b]? with|some (.cells us _ _)=>us.size+k|_=>0
theorem QZ(W:World)(k:Nat):pS (cI (io W k)) W:=by
 intro b us t fz h;simp only[cI,io,h];omega
theorem Qa{w:World}{base:Nat}{t:TypeId}{a:Addr}{l c:Nat}(h:Cell.okWide P w .any base t (.slice (some a) l c)):a.spot=none∧∃us t f,w.heap[a.block]?=some (.cells us t f):=by
 unfold Cell.okWide at h;split at h<;>try (rename_i h2;cases h2;done)
 unfold Cell.ok at h;split at h<;>try (rename_i h2;cases h2;done)
 ·rename_i h1 h2;cases h2;obtain⟨_,_,_,hs,row,cells,hsh,_⟩:=h;refine⟨hs,?_⟩;unfold World.shape? at hsh;split at hsh
  ·rename_i us t f he;exact⟨us,t,f,he⟩
  ·cases hsh
 ·cases h
theorem aAP{base:Nat}{t:TypeId}{v:Value}(h:Value.okWide P W .any base t v){a:Addr}{l c:Nat}(hm:Value.slice (some a) l c∈v.cells.toList) :
  a.spot=none∧∃us t f,W.heap[a.block]?=some (.cells us t f):=by
 have agg:∀cs,v=.agg cs→Row.okWide P W .any base t cs→a.spot=none∧∃us t f,W.heap[a.block]?=some (.cells us t f):=by
  rintro cs rfl ⟨ts,_,_,hr⟩;obtain⟨i,hi⟩:=gC hm;obtain⟨u,_,hu⟩:=hr i _ (by simpa[Value.cells]using hi);exact Qa hu
 unfold Value.okWide at h;split at h
 ·obtain⟨cs,h1,_,h3⟩:=h;exact agg cs h1 h3
 ·obtain⟨cs,h1,_,h3⟩:=h;exact agg cs h1 h3
 ·rename_i n1 n2;cases v<;>simp only[Value.cells]at hm<;>try (simp at hm;done)
  ·rename_i b l2 c2;have:Value.slice (some a) l c=Value.slice b l2 c2:=by simpa using hm
   cases this;exact Qa h
  ·exfalso;unfold Cell.okWide at h;split at h<;>rename_i hq<;>try (cases hq;done)
   unfold Cell.ok at h;split at h<;>rename_i hq<;>first|(cases hq;done)|exact h
theorem aAQ{base:Nat}{t:TypeId}{v:Value}(h:Value.okWide P W .any base t v)(hs:∀fs,P.underlying t≠some (.struct fs))(ha:∀n e,P.underlying t≠some (.array n e)):v.cells = #[v]:=by
 unfold Value.okWide at h;split at h
 ·rename_i fs hf;exact absurd hf (hs fs)
 ·rename_i n e hf;exact absurd hf (ha n e)
 ·cases v<;>try rfl
  exfalso;unfold Cell.okWide at h;split at h<;>rename_i hq<;>try (cases hq;done)
  unfold Cell.ok at h;split at h<;>rename_i hq<;>first|(cases hq;done)|exact h
theorem aAR{τ:Ty}{t:TypeId}{base:Nat}{v:Value}{d:DataW H}{ps:List MemPlace}{p:Nat→Nat}(hc:eo P τ t [] 0=true)(hty:τ.isTy=true)(hlow:τ.low=true)
  (hg:pS (cI p) W)(hv:Value.okWide P W .any base t v)(hoff:∀a l c,Value.slice (some a) l c∈v.cells.toList→(∃us t f,W.heap[a.block]?=some (.cells us t f))→a.off≤p a.block)
  (h:DataW.Trod enc P W 0 (fun _=>true) true t v d ps):∃x:τ.den,τ.wf x∧τ.bulk x=bulkD d∧VR X (cI p) W (τ.pv x) v:=by
 obtain⟨fuel,hf⟩:=h
 have hsp:TH (cI p) v.cells.toList:=fun a l c hm=>by
  obtain⟨h1,h2⟩:=aAP hv hm;exact⟨h1,hoff a l c hm h2⟩
 obtain⟨x,h1,h2,h3⟩:=(pT (X:=X) (enc:=enc) (P:=P) hg τ hlow).1 hty t fuel _ d ps hc hf;refine⟨x,h1,h3,?_⟩
 have single:(∀fs,P.underlying t≠some (.struct fs))→(∀n e,P.underlying t≠some (.array n e))→(∃c,τ.emb x=[c]∧τ.pv x=c)→VR X (cI p) W (τ.pv x) v:=by
  rintro k1 k2 ⟨c,e1,e2⟩;rw[aAQ hv k1 k2,e1]at h2;rw[e2];exact h2.2 0 c v rfl rfl
 cases τ with
 |bool=>
  unfold eo mO at hc;split at hc
  ·rename_i ht;exact single (fun fs e=>by rw[ht]at e;cases e) (fun n e' e=>by rw[ht]at e;cases e) ⟨_,rfl,rfl⟩
  ·cases hc
 |int k=>
  unfold eo gi at hc;split at hc
  ·rename_i ht;exact single (fun fs e=>by rw[ht]at e;cases e) (fun n e' e=>by rw[ht]at e;cases e) ⟨_,rfl,rfl⟩
  ·cases hc
 |str=>
  unfold eo gM at hc;split at hc
  ·rename_i ht;exact single (fun fs e=>by rw[ht]at e;cases e) (fun n e' e=>by rw[ht]at e;cases e) ⟨_,rfl,rfl⟩
  ·cases hc
 |sl e=>
  unfold eo at hc;split at hc
  ·rename_i ht;refine single (fun fs e=>by rw[ht]at e;cases e) (fun n e' e=>by rw[ht]at e;cases e) ?_
   cases x with
   |none=>exact⟨_,rfl,rfl⟩
   |some q=>obtain⟨a,b⟩:=q;exact⟨_,rfl,rfl⟩
  ·cases hc
 |st b=>
  unfold eo at hc;split at hc
  ·rename_i fs ht;unfold Value.okWide at hv;rw[ht]at hv;obtain⟨cs,rfl,_,_⟩:=hv;refine .agg _ cs ?_ (fun j c u e1 e2=>h2.2 j c u e1 (by simpa[Value.cells]using e2));have:=h2.1;simpa[Value.cells]using this
  ·cases hc
 |unit=>cases hty
 |pair a b=>cases hty
theorem zE{p:Nat→Nat}{base:Nat}(hg:pS (cI p) W):∀(τs:List Ty) (ts:List TypeId) (vs:List Value) (ds:List (DataW H)) (ps:List MemPlace),jG P τs ts=true →
  (∀(j:Nat) t v,ts[j]?=some t→vs[j]?=some v→Value.okWide P W .any base t v) →
  (∀v∈vs,∀a l c,Value.slice (some a) l c∈v.cells.toList→(∃us t f,W.heap[a.block]?=some (.cells us t f))→a.off≤p a.block) →
  DataW.TrodAll enc P W 0 (fun _=>true) true ts vs ds ps→∃xs:lN τs,rE τs xs∧oT τs xs=bulkDs ds∧kh X (cI p) W (lO τs xs) vs
 | [],[],vs,ds,ps,_,_,_,h=>by
  match vs,ds,h with
  | [],[],_=>exact⟨(),trivial,rfl,rfl,fun j c u h1 _=>by simp[lO]at h1⟩
 | [],_::_,_,_,_,h,_,_,_=>by simp[jG]at h
 |_::_,[],_,_,_,h,_,_,_=>by simp[jG]at h
 |τ::τs,t::ts,vs,ds,ps,hc,hv,ho,h=>by
  simp only[jG,aJ,decide_eq_true_eq]at hc;obtain⟨⟨⟨⟨⟨c1,c2⟩,c3⟩,c4⟩,c5⟩,c6⟩:=hc
  match vs,ds,h with
  |v::vs,d::ds,⟨p1,p2,h1,h2,_⟩=>
   obtain⟨x,x1,x2,x3⟩:=aAR (X:=X) c1 c2 c3 hg (hv 0 t v rfl rfl) (ho v (by simp)) h1;obtain⟨xs,y1,y2,y3⟩:=zE hg τs ts vs ds p2 c6 (fun j t v e1 e2=>hv (j+1) t v (by simpa using e1) (by simpa using e2)) (fun v hm=>ho v (by simp[hm])) h2;refine⟨(x,xs),⟨x1,y1⟩,?_,?_⟩
   ·show τ.bulk x+oT τs xs=bulkD d+bulkDs ds;rw[x2,y2]
   ·exact BG (cs:=[τ.pv x]) (us:=[v]) (mF x3) y3
theorem zF(hl:laidOutB P=true)(hk:oK W W'){sp':Nat→Bool}:∀{τs:List Ty} {ts:List TypeId} {vs:List Value} {ds:List (DataW H)} {ps:List MemPlace},jG P τs ts=true →
  DataW.TrodAll enc P W 0 (fun _=>true) true ts vs ds ps→(∀p∈ps,p.block<W.heap.size)→(∀p∈ps,sp' p.block=true)→DataW.TrodAll enc P W' 0 sp' true ts vs ds ps
 | [],[],vs,ds,ps,_,h,_,_=>by
  match vs,ds,h with
  | [],[],h=>exact h
 | [],_::_,_,_,_,h,_,_,_=>by simp[jG]at h
 |_::_,[],_,_,_,h,_,_,_=>by simp[jG]at h
 |τ::τs,t::ts,vs,ds,ps,hc,h,hlt,hs=>by
  simp only[jG,aJ,decide_eq_true_eq]at hc;obtain⟨⟨⟨⟨⟨c1,c2⟩,c3⟩,c4⟩,c5⟩,c6⟩:=hc
  match vs,ds,h with
  |v::vs,d::ds,⟨p1,p2,h1,h2,e⟩=>
   subst e;refine⟨p1,p2,WideElems.Trod_stays hl c4 c5 h1 (fun x hx=>?_) (fun x hx=>hs x (by simp[hx])),zF hl hk c6 h2 (fun x hx=>hlt x (by simp[hx])) (fun x hx=>hs x (by simp[hx])),rfl⟩;have hb:=hlt x (by simp[hx])
   cases x with
   |cell b o=>exact World.cell?_of_block (w:=W) (hk.2.2.2 b hb)
   |map b=>exact hk.2.2.2 b hb
theorem zG:∀{ts:List TypeId} {vs:List Value} {ds:List (DataW H)} {ps:List MemPlace} {b:Nat} {sp:Nat→Bool} {hd:Bool},DataW.TrodAll enc P W b sp hd ts vs ds ps→vs.length=ts.length∧ds.length=ts.length
 | [],[],[],_,_,_,_,_=>⟨rfl,rfl⟩
 |_::_,_::_,_::_,_,_,_,_,⟨_,_,_,h,_⟩=>by
  obtain⟨a,b⟩:=zG h;exact⟨by simp[a],by simp[b]⟩
theorem contract{X:Tie}(hX:cR X){gid:Nat}{fn:Func}(hfn:X.P.funcs[X.fnOf gid]?=some fn)(hname:fn.name ≠ "runtime.NumGoroutine") (hbody:fn.body.isSome=true) {s:ChangeSpec} (hvars:s.vars=[])
  (τs:List Ty) (hchk:jG X.P τs fn.params.toList=true) (hspec:∀(H:Type) (ds:List (DataW H)),ds.length=fn.params.size→s.fn H ds = {results:=[.lit (.bool true)],args:=ds})
  {tb:TypeId} (hres:fn.resultTypes = #[tb]) (htb:X.P.underlying tb=some .bool) (hl:laidOutB X.P=true) {N:Nat} (hlaw:∀xs:lN τs,rE τs xs→oT τs xs≤N→∃S',aM X.T gid (lO τs xs) bT=some (.bool true,S'))
  {W:World} {base:Nat} {args:Array Value} {ds gs:List (DataW H)} {before:List MemPlace} (hN:bulkDs ds≤N)
  (hgl:∀q∈X.gl,q.1<W.heap.size∧W.cell? ⟨q.1,0,none⟩=some q.2)
  (hval:∀(j:Nat) t v,fn.params[j]?=some t→args[j]?=some v→Value.okWide X.P W .any base t v)
  (hW:DataW.Whole enc X.P fn.params.toList s.vars false W args.toList ds gs before) :
  Calls X.P (X.fnOf gid) args W fun e W'=>∃v,e=.returned v∧s.post enc X.P fn false true false false W args v W':=by
 have hW':=hW;have hlt:=hW.lt;obtain⟨p,q,hA,hV,rfl,hfz,hnd⟩:=hW;rw[hvars]at hV;obtain⟨rfl,rfl⟩:=trodVars_none hV;obtain⟨l1,l2⟩:=zG hA;let k:=QY args.toList
 have hoff:∀v∈args.toList,∀a l c,Value.slice (some a) l c∈v.cells.toList→(∃us t f,W.heap[a.block]?=some (.cells us t f))→a.off≤io W k a.block:=by
  intro v hv a l c hm ⟨us,t,f,he⟩;have:a.off≤k:=zD (List.mem_flatMap.2 ⟨v,hv,hm⟩);simp only[io,he];omega
 obtain⟨xs,x1,x2,x3⟩:=zE (X:=X) (enc:=enc) (QZ W k) τs fn.params.toList args.toList ds p hchk (fun j t v e1 e2=>hval j t v (by simpa using e1) (by simpa using e2)) hoff hA;obtain⟨S',hc⟩:=hlaw xs x1 (by rw[x2];exact hN);have hVRL:bQ X (cI (io W k)) W (lO τs xs) args:=⟨by simpa using x3.1,fun j c u e1 e2=>x3.2 j c u e1 (by simpa using e2)⟩;refine(YW hX hfn hname hbody hc (p:=io W k) (fun b hb=>?_) ?_ hVRL).mono fun e W' ⟨he,hk⟩=>?_
 ·have:W.heap[b]?=none:=by simpa using hb
  simp[io,this]
 ·exact fun q hq=>⟨⟨(hgl q hq).1,fun _=>by simp[cI],rfl,fun _=>by simp[cI]⟩,(hgl q hq).2⟩
 subst he
 have hds:s.fn H (ds++[]) = {results:=[.lit (.bool true)],args:=ds}:=by
  rw[dR];exact hspec H ds (by rw[l2];simp)
 refine⟨_,rfl,Pb (pa:=p) (pv:=[]) hW' (fun _ _ _=>?_) (fun sp hsp=>?_) (fun _ _=>?_) rfl hk (ok_one hres rfl (okWide_bool_mk htb _))⟩
 ·rw[hds,hres];exact trodAll_cons_mk (shut_bool htb _) trodAll_mk0
 ·rw[hds];exact zF hl hk hchk hA (fun x hx=>hlt x (by simp[hx])) (fun x hx=>hsp x (by simp[hx]))
 ·rw[hds,hvars];rfl
end
end Ps
