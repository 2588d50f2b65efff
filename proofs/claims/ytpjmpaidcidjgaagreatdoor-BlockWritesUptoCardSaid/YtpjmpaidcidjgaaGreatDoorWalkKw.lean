/- Rules for walking a function by rewriting. -/
import Derived.Test.YtpjmpaidcidjgaaGreatDoorAbbKw
import Derived.Test.YtpjmpaidcidjgaaGreatDoorGoKw
set_option linter.defProp false
namespace Ps
open Go
def aP{l m:List aB}(h:l=m)(T:aQ)(K:List Kt)(fr:Fr)(S:St):aE T (.ops l::K) fr S=aE T (.ops m::K) fr S:=by rw[h]
def bL{l m:aL}(h:l=m)(T:aQ)(K:List Kt)(fr:Fr)(S:St):aE T (.code l::K) fr S=aE T (.code m::K) fr S:=by rw[h]
abbrev aD(a b:Nat)(r:List aB):aL:=.clr [(a,b)] (.region r)
abbrev ai(r:List aB):aL:=.region r
abbrev aA(a b:aL):aL:=.seq a b
def aC{l m:List aB}{p:Prop}(h:l=m)(g:p):(∀(T:aQ) (K:List Kt) (fr:Fr) (S:St),aE T (.ops l::K) fr S=aE T (.ops m::K) fr S)∧p:=⟨aP h,g⟩
abbrev V(n:Nat):aG:=.tmp n
abbrev I(n:Int):aG:=.cst (.int .i64 n)
abbrev cN:aG:=.cst (.bool true)
abbrev bG:aG:=.cst (.bool false)
abbrev Q(d:Nat)(op:bO):aB:=⟨some d,op,none⟩
abbrev QN(op:bO):aB:=⟨none,op,none⟩
abbrev QG(d:Option Nat)(op:bO)(t:Nat)(b:Bool):aB:=⟨d,op,some (t,b)⟩
abbrev M(d s:Nat):aB:=⟨some d,.mov (.tmp s),none⟩
abbrev ba(d s:Nat):aB:=⟨some d,.nilck (.tmp s),none⟩
abbrev FA(d k s:Nat):aB:=⟨some d,.faddr k (.tmp s),none⟩
abbrev LD(d s:Nat):aB:=⟨some d,.load false 1 false (.tmp s),none⟩
abbrev EX(d k s:Nat):aB:=⟨some d,.extract k (.tmp s),none⟩
@[simp]def aKS:PV.und.cells=[PV.und]:=rfl
@[simp]def aKT:PV.und.one=false:=rfl
@[simp]def Aa(k:IntKind)(n:Int):(PV.int k n).cells=[(PV.int k n)]:=rfl
@[simp]def aKU(k:IntKind)(n:Int):(PV.int k n).one=true:=rfl
@[simp]def aKV(b:Bool):(PV.bool b).cells=[(PV.bool b)]:=rfl
@[simp]def aKW(b:Bool):(PV.bool b).one=true:=rfl
@[simp]def aKX(s:List UInt8):(PV.str s).cells=[(PV.str s)]:=rfl
@[simp]def aKY(s:List UInt8):(PV.str s).one=true:=rfl
@[simp]def aKZ:PV.nilp.cells=[PV.nilp]:=rfl
@[simp]def aK0:PV.nilp.one=true:=rfl
@[simp]def aK1:PV.nils.cells=[PV.nils]:=rfl
@[simp]def aK2:PV.nils.one=true:=rfl
@[simp]def aK3:PV.nili.cells=[PV.nili]:=rfl
@[simp]def aK4:PV.nili.one=true:=rfl
@[simp]def aK5:PV.nilf.cells=[PV.nilf]:=rfl
@[simp]def aK6:PV.nilf.one=true:=rfl
@[simp]def aK7(i o:Nat):(PV.ptr i o).cells=[(PV.ptr i o)]:=rfl
@[simp]def aK8(i o:Nat):(PV.ptr i o).one=true:=rfl
@[simp]def aK9(cs:List PV):(PV.ref cs).cells=[(PV.ref cs)]:=rfl
@[simp]def aLa(cs:List PV):(PV.ref cs).one=true:=rfl
@[simp]def aLb(t:Option (Nat×Nat))(a b:List PV):(PV.sl t a b).cells=[(PV.sl t a b)]:=rfl
@[simp]def aLc(t:Option (Nat×Nat))(a b:List PV):(PV.sl t a b).one=true:=rfl
@[simp]def aLd(i o n s:Nat):(PV.osl i o n s).cells=[(PV.osl i o n s)]:=rfl
@[simp]def aLe(i o n s:Nat):(PV.osl i o n s).one=true:=rfl
@[simp]def aLf:PV.emp.cells=[PV.emp]:=rfl
@[simp]def aLg:PV.emp.one=true:=rfl
@[simp]def aLh(t:Nat)(v:PV):(PV.iface t v).cells=[(PV.iface t v)]:=rfl
@[simp]def aLi(t:Nat)(v:PV):(PV.iface t v).one=true:=rfl
@[simp]def aLj(cs:List PV):(PV.agg cs).cells=cs:=rfl
@[simp]def aLk(cs:List PV):(PV.agg cs).one=false:=rfl
@[simp]def aLl(cs:List PV):(PV.tup cs).cells=[(PV.tup cs)]:=rfl
@[simp]def aLm(cs:List PV):(PV.tup cs).one=false:=rfl
@[simp]def aLn(f:Nat)(cs:List PV):(PV.fn f cs).cells=[(PV.fn f cs)]:=rfl
@[simp]def aLo(f:Nat)(cs:List PV):(PV.fn f cs).one=true:=rfl
@[simp]def aLp:PV.nilm.cells=[PV.nilm]:=rfl
@[simp]def aLq:PV.nilm.one=true:=rfl
@[simp]def aLr(i:Nat):(PV.hnd i).cells=[(PV.hnd i)]:=rfl
@[simp]def aLs(i:Nat):(PV.hnd i).one=true:=rfl
@[simp]def aLt(i:Nat):(PV.map i).cells=[(PV.map i)]:=rfl
@[simp]def aLu(i:Nat):(PV.map i).one=true:=rfl
@[simp]def aLv(f:Nat)(cs:List PV):(PV.bfn f cs).cells=[(PV.bfn f cs)]:=rfl
@[simp]def aLw(f:Nat)(cs:List PV):(PV.bfn f cs).one=true:=rfl
attribute [simp] PV.free PV.freeL PV.frz PV.frzL
mutual
theorem Sl:∀v:PV,PV.beq v v=true
 |.und=>rfl
 |.int k n=>by simp[PV.beq]
 |.bool b=>by simp[PV.beq]
 |.str s=>by simp[PV.beq]
 |.nilp=>rfl
 |.nils=>rfl
 |.nili=>rfl
 |.nilf=>rfl
 |.ptr i o=>by simp[PV.beq]
 |.ref cs=>by simp[PV.beq,kd cs]
 |.sl t a b=>by simp[PV.beq,kd a,kd b]
 |.osl i o n s=>by simp[PV.beq]
 |.emp=>rfl
 |.iface t v=>by simp[PV.beq,Sl v]
 |.agg cs=>by simp[PV.beq,kd cs]
 |.tup cs=>by simp[PV.beq,kd cs]
 |.fn f cs=>by simp[PV.beq,kd cs]
 |.nilm=>rfl
 |.map i=>by simp[PV.beq]
 |.hnd i=>by simp[PV.beq]
 |.bfn f cs=>by simp[PV.beq,kd cs]
theorem kd:∀l:List PV,PV.beqL l l=true
 | []=>rfl
 |v::l=>by simp[PV.beqL,Sl v,kd l]
end
theorem Ab:∀l:List (List PV),PV.beqLL l l=true
 | []=>rfl
 |v::l=>by simp[PV.beqLL,kd v,Ab l]
def ob{α β:Type}:Option α→(α→Option β)→Option β
 |some x,f=>f x
 |none,_=>none
@[simp]def pE{α β:Type}(x:α)(f:α→Option β):ob (some x) f=f x:=rfl
@[simp]def aLx{α β:Type}(f:α→Option β):ob none f=none:=rfl
@[congr]def aLy{α β:Type}{a a':Option α}{f:α→Option β}(h:a=a'):ob a f=ob a' f:=by rw[h]
@[congr]def aLz{T:aQ}{K:List Kt}{fr fr':Fr}{S S':St}(h1:fr=fr')(h2:S=S'):aE T K fr S=aE T K fr' S':=by rw[h1,h2]
@[congr]def aLA{α:Type}{v v':PV}{a b:Option α}(h:v=v'):br v a b=br v' a b:=by rw[h]
@[congr]def aLB{α:Type}{v v':PV}{c:Bool}{a b:Option α}(h:v=v'):fg v c a b=fg v' c a b:=by rw[h]
@[simp]def aLC(fr:Fr)(d:Nat)(v:PV)(t:Nat):upd fr d v t=cond (t==d) v (fr t):=rfl
@[simp]def aLD(fr:Fr):clrs [] fr=fr:=rfl
@[simp]def aLE(a b:Nat)(l:List (Nat×Nat))(fr:Fr):clrs ((a,b)::l) fr=clrs l (fG a b fr):=rfl
@[simp]def aLF(lo hi t:Nat):gn lo hi t=((lo-t==0)&&(t+1-hi==0)):=rfl
@[simp]def aLG(lo hi:Nat)(fr:Fr)(t:Nat):fG lo hi fr t=cond (gn lo hi t) .und (fr t):=rfl
def Sn(lo hi:Nat)(fr:Fr)(d:Nat)(v:PV):fG lo hi (upd fr d v)=cond (gn lo hi d) (fG lo hi fr) (upd (fG lo hi fr) d v):=by
 funext t
 cases h:(gn lo hi d)with
 |true=>
  simp only[cond_true,fG,upd]
  cases h2:(gn lo hi t)with
  |true=>rfl
  |false=>
   have:(t==d)=false:=by
    rw[nW];intro e;rw[beq_iff_eq]at e;subst e;rw[h]at h2;cases h2
   simp[this]
 |false=>
  simp only[cond_false,fG,upd]
  cases h2:(gn lo hi t)with
  |true=>
   have:(t==d)=false:=by
    rw[nW];intro e;rw[beq_iff_eq]at e;subst e;rw[h]at h2;cases h2
   simp[this]
  |false=>simp
@[simp]def aLH(lo hi:Nat)(fr:Fr)(d:Nat)(v:PV)(h:(gn lo hi d)=true):fG lo hi (upd fr d v)=fG lo hi fr:=by rw[Sn,h];rfl
@[simp]def aLI(lo hi:Nat)(fr:Fr)(d:Nat)(v:PV)(h:(gn lo hi d)=false):fG lo hi (upd fr d v)=upd (fG lo hi fr) d v:=by rw[Sn,h];rfl
@[simp]def aLJ(lo hi:Nat)(fr:Fr):fG lo hi (fG lo hi fr)=fG lo hi fr:=by
 funext t;simp only[fG];cases(gn lo hi t)<;>rfl
@[simp]def aLK(fr:Fr)(d:Nat)(v:PV):aS fr (some d) v=upd fr d v:=rfl
@[simp]def aLL(fr:Fr)(v:PV):aS fr none v=fr:=rfl
@[simp]def aLM(fr:Fr)(t:Nat):ev fr (.tmp t)=fr t:=rfl
@[simp]def aLN(fr:Fr)(v:PV):ev fr (.cst v)=v:=rfl
@[simp]def aLO(fr:Fr):cG fr none=none:=rfl
@[simp]def aLP(fr:Fr)(x:aG):cG fr (some x)=some (ev fr x):=rfl
attribute [simp] yk Yh Yi Yj Pj Yk Yl Ym Yq Yn Yo Yp yl Yt Yr Ys ff
def aGz{α:Type}{a b:Option α}{c d:Bool}:fg (.bool c) d a b=if c=d then a else b:=by cases c<;>cases d<;>rfl
@[simp]def aLQ{α:Type}{a b:Option α}{c:Bool}:fg (.bool c) true a b=br (.bool c) a b:=by cases c<;>rfl
@[simp]def aLR{α:Type}{a b:Option α}{c:Bool}:fg (.bool c) false a b=br (.bool c) b a:=by cases c<;>rfl
@[simp]def aLS{α:Type}{a b:Option α}{d:Bool}:fg (.tup []) d a b=b:=rfl
def fw:PV→Option PV
 |.ptr i o=>some (.ptr i o)
 |.ref cs=>some (.ref cs)
 |.iface t v=>some (.iface t v)
 |.fn f cs=>some (.fn f cs)
 |.bfn f cs=>some (.bfn f cs)
 |_=>none
def ec(neg isb:Bool)(n:Nat):PV→PV→Option PV
 |.agg a,.agg b=>if a.length=n∧b.length=n then(match dh isb a b with|some r=>some (gN neg r)|none=>none)else none
 |_,_=>none
def iP(k:IntKind):PV→Option PV
 |.int _ n=>some (.int k (k.wrap n))
 |_=>none
def jO:PV→Option PV
 |.str s=>some (.str s)
 |_=>none
def jP(ag:Bool)(off n:Nat):PV→Option PV
 |.agg cs=>az ag n (cs.drop off)
 |_=>none
def iQ(i:Nat):PV→Option PV
 |.tup vs=>vs[i]?
 |_=>none
def gz(t:Nat)(ok:Bool)(z:PV):PV→Option PV
 |.nili=>if ok then some (.tup [z,.bool false])else none
 |.iface u v=>if u=t then some (if ok then .tup [v,.bool true]else v)else(if ok then some (.tup [z,.bool false])else none)
 |_=>none
def dw:PV→PV→Option PV
 |.str s,.int _ j=>if 0≤j then(match s[j.toNat]? with|some b=>some (.int .u8 b.toNat)|none=>none)else none
 |_,_=>none
def ef(len n:Nat)(ag:Bool):PV→PV→Option PV
 |.agg cs,.int _ j=>if 0≤j∧j<len then az ag n (cs.drop (j.toNat*n))else none
 |_,_=>none
def jQ(lo hi:Option PV):PV→Option PV
 |.str s=>match cY s.length s.length lo hi with
  |some (l,h)=>some (.str ((s.take h).drop l))
  |none=>none
 |_=>none
def dx(sz:Nat)(lo hi:Option PV):PV→Option PV
 |.nils=>match cY 0 0 lo hi with|some _=>some .nils|none=>none
 |.sl tip es sp=>if !iI sz (es++sp)then none else match cY es.length (es.length+sp.length) lo hi with
  |some (l,h)=>some (.sl (if h=es.length then tip else none) (((es++sp).take h).drop l) ((es++sp).drop h))
  |none=>none
 |.osl id off len sz'=>if sz'=sz∧0<sz then(match cY len len lo hi with
  |some (l,h)=>if l=0∨l<h then some (.osl id (off+l*sz) (h-l) sz)else none
  |none=>none)else none
 |.emp=>match cY 0 0 lo hi with|some _=>some .emp|none=>none
 |_=>none
def aGA(len sz:Nat)(lo hi:Option PV):PV→Option PV
 |.ptr id off=>match cY len len lo hi with
  |some (l,h)=>if l<h then some (.osl id (off+l*sz) (h-l) 0)else none
  |none=>none
 |.ref cs=>if sz=1∧cs.length=len∧cs.all PV.one=true then(match cY len len lo hi with
  |some (l,h)=>if l<h then some (.sl none ((cs.take h).drop l) (cs.drop h))else none
  |none=>none)else none
 |_=>none
def hI(off:Nat):PV→Option PV
 |.ptr id o=>some (.ptr id (o+off))
 |.ref cs=>if off≤cs.length then some (.ref (cs.drop off))else none
 |_=>none
def cC(sz:Nat):PV→PV→Option PV
 |.sl _ es _,.int _ j=>if 0≤j then(match es[j.toNat]? with|some e=>if e.cells.length=sz then some (.ref e.cells)else none|none=>none)else none
 |.osl id off n _,.int _ j=>if 0≤j∧j<n then some (.ptr id (off+j.toNat*sz))else none
 |_,_=>none
def dy(len sz:Nat):PV→PV→Option PV
 |.ptr id off,.int _ j=>if 0≤j∧j<len then some (.ptr id (off+j.toNat*sz))else none
 |.ref cs,.int _ j=>if 0≤j∧j<len∧j.toNat*sz≤cs.length then some (.ref (cs.drop (j.toNat*sz)))else none
 |_,_=>none
def dc(st:Bool):PV→Option PV
 |.str s=>if st then some (.int .i64 s.length)else none
 |.nils=>if st then none else some (.int .i64 0)
 |.sl _ es _=>if st then none else some (.int .i64 es.length)
 |.osl _ _ n _=>if st then none else some (.int .i64 n)
 |.emp=>if st then none else some (.int .i64 0)
 |_=>none
def dz(mx:Bool):PV→PV→Option PV
 |.int k a,.int l b=>if k=l then some (.int k (if mx then(if b>a then b else a)else(if b<a then b else a)))else none
 |_,_=>none
@[simp]def aLT{i o:Nat}:fw (.ptr i o)=some (.ptr i o):=rfl
@[simp]def aLU{cs:List PV}:fw (.ref cs)=some (.ref cs):=rfl
@[simp]def aLV{t:Nat}{v:PV}:fw (.iface t v)=some (.iface t v):=rfl
@[simp]def aLW{f:Nat}{cs:List PV}:fw (.fn f cs)=some (.fn f cs):=rfl
def Ac(neg:Bool)(n:Nat):PV→PV→Option PV
 |.agg a,.agg b=>if a.length=n∧b.length=n then(match dh false a b with|some r=>some (gN neg r)|none=>none)else none
 |_,_=>none
@[simp]def aLX{neg:Bool}{n:Nat}{a b:List PV}:Ac neg n (.agg a) (.agg b)=if a.length=n∧b.length=n then(match dh false a b with|some r=>some (gN neg r)|none=>none)else none:=rfl
@[simp]def aLY{neg isb:Bool}{n:Nat}{a b:List PV}:ec neg isb n (.agg a) (.agg b)=if a.length=n∧b.length=n then(match dh isb a b with|some r=>some (gN neg r)|none=>none)else none:=rfl
@[simp]def aLZ{k l:IntKind}{n:Int}:iP k (.int l n)=some (.int k (k.wrap n)):=rfl
@[simp]def aL0{s:List UInt8}:jO (.str s)=some (.str s):=rfl
@[simp]def aL1{ag:Bool}{off n:Nat}{cs:List PV}:jP ag off n (.agg cs)=az ag n (cs.drop off):=rfl
@[simp]def aL2{i:Nat}{vs:List PV}:iQ i (.tup vs)=vs[i]?:=rfl
@[simp]def aL3{t:Nat}{ok:Bool}{z:PV}:gz t ok z .nili=if ok then some (.tup [z,.bool false])else none:=rfl
@[simp]def aL4{t u:Nat}{ok:Bool}{z v:PV}:gz t ok z (.iface u v)=if u=t then some (if ok then .tup [v,.bool true]else v)else(if ok then some (.tup [z,.bool false])else none):=rfl
@[simp]def So{s:List UInt8}{k:IntKind}{j:Int}:dw (.str s) (.int k j)=if 0≤j then(match s[j.toNat]? with|some b=>some (.int .u8 b.toNat)|none=>none)else none:=rfl
@[simp]def aL5{len n:Nat}{ag:Bool}{cs:List PV}{k:IntKind}{j:Int}:ef len n ag (.agg cs) (.int k j)=if 0≤j∧j<len then az ag n (cs.drop (j.toNat*n))else none:=rfl
@[simp]def aL6{lo hi:Option PV}{s:List UInt8}:jQ lo hi (.str s)=match cY s.length s.length lo hi with|some (l,h)=>some (.str ((s.take h).drop l))|none=>none:=rfl
@[simp]def rp{sz:Nat}{lo hi:Option PV}:dx sz lo hi .nils=match cY 0 0 lo hi with|some _=>some .nils|none=>none:=rfl
@[simp]def ry{sz:Nat}{lo hi:Option PV}{tip:Option (Nat×Nat)}{es sp:List PV}:dx sz lo hi (.sl tip es sp)=if !iI sz (es++sp)then none else match cY es.length (es.length+sp.length) lo hi with
   |some (l,h)=>some (.sl (if h=es.length then tip else none) (((es++sp).take h).drop l) ((es++sp).drop h))
   |none=>none:=rfl
@[simp]def aL7{len sz:Nat}{lo hi:Option PV}{id off:Nat}:aGA len sz lo hi (.ptr id off)=match cY len len lo hi with|some (l,h)=>if l<h then some (.osl id (off+l*sz) (h-l) 0)else none|none=>none:=rfl
@[simp]def aL8{sz:Nat}{lo hi:Option PV}{id off len:Nat}:dx sz lo hi (.osl id off len sz)=if 0<sz then(match cY len len lo hi with
  |some (l,h)=>if l=0∨l<h then some (.osl id (off+l*sz) (h-l) sz)else none
  |none=>none)else none:=by simp[dx]
@[simp]def aL9{sz:Nat}{lo hi:Option PV}:dx sz lo hi .emp=match cY 0 0 lo hi with|some _=>some .emp|none=>none:=rfl
def vG:PV→Option PV
 |.nils=>some .nils
 |.sl ..=>some .emp
 |.osl ..=>some .emp
 |.emp=>some .emp
 |_=>none
@[simp]def aMa:vG .nils=some .nils:=rfl
@[simp]def aMb{t:Option (Nat×Nat)}{a b:List PV}:vG (.sl t a b)=some .emp:=rfl
@[simp]def aMc{i o n s:Nat}:vG (.osl i o n s)=some .emp:=rfl
@[simp]def aMd:vG .emp=some .emp:=rfl
@[simp]def aMe{off id o:Nat}:hI off (.ptr id o)=some (.ptr id (o+off)):=rfl
@[simp]def aMf{off:Nat}{cs:List PV}:hI off (.ref cs)=if off≤cs.length then some (.ref (cs.drop off))else none:=rfl
@[simp]def aMg{sz:Nat}{tip:Option (Nat×Nat)}{es sp:List PV}{k:IntKind}{j:Int}:cC sz (.sl tip es sp) (.int k j)=if 0≤j then(match es[j.toNat]? with|some e=>if e.cells.length=sz then some (.ref e.cells)else none|none=>none)else none:=rfl
@[simp]def vH{sz id off n s:Nat}{k:IntKind}{j:Int}:cC sz (.osl id off n s) (.int k j)=if 0≤j∧j<n then some (.ptr id (off+j.toNat*sz))else none:=rfl
@[simp]def aMh{len sz id off:Nat}{k:IntKind}{j:Int}:dy len sz (.ptr id off) (.int k j)=if 0≤j∧j<len then some (.ptr id (off+j.toNat*sz))else none:=rfl
@[simp]def aMi{len sz:Nat}{cs:List PV}{k:IntKind}{j:Int}:dy len sz (.ref cs) (.int k j)=if 0≤j∧j<len∧j.toNat*sz≤cs.length then some (.ref (cs.drop (j.toNat*sz)))else none:=rfl
@[simp]def aMj{s:List UInt8}:dc true (.str s)=some (.int .i64 s.length):=rfl
@[simp]def aMk:dc false .nils=some (.int .i64 0):=rfl
@[simp]def aMl{tip:Option (Nat×Nat)}{es sp:List PV}:dc false (.sl tip es sp)=some (.int .i64 es.length):=rfl
@[simp]def aMm{id off n s:Nat}:dc false (.osl id off n s)=some (.int .i64 n):=rfl
@[simp]def aMn:dc false .emp=some (.int .i64 0):=rfl
@[simp]def aMo{mx:Bool}{k:IntKind}{a b:Int}:dz mx (.int k a) (.int k b)=some (.int k (if mx then(if b>a then b else a)else(if b<a then b else a))):=by simp[dz]
def Sp(fr:Fr)(st:Bool)(x:aG):aW fr (.len st x)=dc st (ev fr x):=by
 cases st<;>simp only[aW]<;>cases ev fr x<;>rfl
section
variable {T : aQ} {K : List Kt} {fr : Fr} {S : St} {d : Option Nat} {l : List aB}
def Sr{op:bO}:aE T (.ops (⟨d,op,none⟩::l)::K) fr S=ob (cB T fr S op) fun x=>aE T (.ops l::K) (aS fr d x.1) x.2:=by
 rw[ym];cases cB T fr S op<;>rfl
def eB{op:bO}{q:Option PV}(h:cB T fr S op=dL S q):aE T (.ops (⟨d,op,none⟩::l)::K) fr S=ob q fun v=>aE T (.ops l::K) (aS fr d v) S:=by
 rw[Sr,h];cases q<;>rfl
@[simp]def aMp {x:aG}:aE T (.ops (⟨d,.mov x,none⟩::l)::K) fr S=aE T (.ops l::K) (aS fr d (ev fr x)) S:=eB (q:=some (ev fr x)) rfl
@[simp]def aMq {t:Nat} {x:aG}:aE T (.ops (⟨d,.mkif t x,none⟩::l)::K) fr S=aE T (.ops l::K) (aS fr d (.iface t (ev fr x))) S:=eB (q:=some (.iface t (ev fr x))) rfl
@[simp]def aMr {f:Nat} {caps:List aG}:aE T (.ops (⟨d,.mkfn f caps,none⟩::l)::K) fr S=aE T (.ops l::K) (aS fr d (.fn f (caps.map (ev fr)))) S:=eB (q:=some (.fn f (caps.map (ev fr)))) rfl
def bw(c a b:PV):Option PV:=match c with|.bool true=>some a|.bool false=>some b|_=>none
@[simp]def aMs{c a b:aG}:aE T (.ops (⟨d,.pick c a b,none⟩::l)::K) fr S=ob (bw (ev fr c) (ev fr a) (ev fr b)) fun v=>aE T (.ops l::K) (aS fr d v) S:=eB rfl
@[simp]def aMt{o:BinOp}{x y:aG}:aE T (.ops (⟨d,.arith o x y,none⟩::l)::K) fr S=ob (arith o (ev fr x) (ev fr y)) fun v=>aE T (.ops l::K) (aS fr d v) S:=eB rfl
@[simp]def aMu{o:UnOp}{x:aG}:aE T (.ops (⟨d,.un o x,none⟩::l)::K) fr S=ob (unOp o (ev fr x)) fun v=>aE T (.ops l::K) (aS fr d v) S:=eB rfl
def eg(neg:Bool)(a b:PV):Option PV:=match a,b with|.bool a,.bool b=>some (gN neg (a==b))|_,_=>none
@[simp]def aMv{neg a b:Bool}:eg neg (.bool a) (.bool b)=some (gN neg (a==b)):=rfl
@[simp]def aMw{b:Bool}:gN false b=.bool b:=rfl
@[simp]def aMx{b:Bool}:gN true b=.bool !b:=rfl
def gV(neg:Bool)(k:NK)(a:PV):Option PV:=match isNil k a with|some b=>some (gN neg b)|none=>none
@[simp]def aMy{neg:Bool}{k:NK}{x:aG}:aE T (.ops (⟨d,.eqn neg k x,none⟩::l)::K) fr S=ob (gV neg k (ev fr x)) fun v=>aE T (.ops l::K) (aS fr d v) S:=eB rfl
def Ad{op:bO}(h:cB T fr S op=dL S (aW fr op)):aE T (.ops (⟨d,op,none⟩::l)::K) fr S=ob (aW fr op) fun v=>aE T (.ops l::K) (aS fr d v) S:=eB h
def fx:PV→Option PV
 |.nils=>some (.str [])
 |.emp=>some (.str [])
 |.sl _ es _=>match jg es with|some s=>some (.str s)|none=>none
 |_=>none
@[simp]def aMz{x:aG}:aE T (.ops (⟨d,.nilck x,none⟩::l)::K) fr S=ob (fw (ev fr x)) fun v=>aE T (.ops l::K) (aS fr d v) S:=eB (by simp only[cB,aH,aW];rfl)
@[simp]def aMA{neg:Bool}{n:Nat}{x y:aG}:aE T (.ops (⟨d,.eqs neg n x y,none⟩::l)::K) fr S=ob (Ac neg n (ev fr x) (ev fr y)) fun v=>aE T (.ops l::K) (aS fr d v) S:=eB (by simp only[cB,aH,aW];rfl)
@[simp]def aMB{k:IntKind}{x:aG}:aE T (.ops (⟨d,.toInt k x,none⟩::l)::K) fr S=ob (iP k (ev fr x)) fun v=>aE T (.ops l::K) (aS fr d v) S:=eB (by simp only[cB,aH,aW];rfl)
@[simp]def aMC{x:aG}:aE T (.ops (⟨d,.toStr x,none⟩::l)::K) fr S=ob (fx (ev fr x)) fun v=>aE T (.ops l::K) (aS fr d v) S:=Ad rfl
@[simp]def aMD{z:List PV}{ps:List (Nat×Nat×aG)}:aE T (.ops (⟨d,.build z ps,none⟩::l)::K) fr S=ob (aW fr (.build z ps)) fun v=>aE T (.ops l::K) (aS fr d v) S:=Ad rfl
@[simp]def aME{i:Nat}{x:aG}:aE T (.ops (⟨d,.extract i x,none⟩::l)::K) fr S=ob (iQ i (ev fr x)) fun v=>aE T (.ops l::K) (aS fr d v) S:=eB (by simp only[cB,aH,aW];rfl)
@[simp]def aMF{t:Nat}{ok:Bool}{z:PV}{x:aG}:aE T (.ops (⟨d,.assert t ok z x,none⟩::l)::K) fr S=ob (gz t ok z (ev fr x)) fun v=>aE T (.ops l::K) (aS fr d v) S:=eB (by simp only[cB,aH,aW];rfl)
@[simp]def aMG{x i:aG}:aE T (.ops (⟨d,.idxs x i,none⟩::l)::K) fr S=ob (dw (ev fr x) (ev fr i)) fun v=>aE T (.ops l::K) (aS fr d v) S:=eB (by simp only[cB,aH,aW];rfl)
@[simp]def aMH{sz:Nat}{lo hi:Option aG}{x:aG}:aE T (.ops (⟨d,.slc sz lo hi x,none⟩::l)::K) fr S=ob (dx sz (cG fr lo) (cG fr hi) (ev fr x)) fun v=>aE T (.ops l::K) (aS fr d v) S:=eB (by simp only[cB,aH,aW];rfl)
@[simp]def aMI{off:Nat}{x:aG}:aE T (.ops (⟨d,.faddr off x,none⟩::l)::K) fr S=ob (hI off (ev fr x)) fun v=>aE T (.ops l::K) (aS fr d v) S:=eB (by simp only[cB,aH,aW];rfl)
@[simp]def aMJ{sz:Nat}{x i:aG}:aE T (.ops (⟨d,.iaddr sz x i,none⟩::l)::K) fr S=ob (cC sz (ev fr x) (ev fr i)) fun v=>aE T (.ops l::K) (aS fr d v) S:=eB (by simp only[cB,aH,aW];rfl)
@[simp]def aMK{len sz:Nat}{x i:aG}:aE T (.ops (⟨d,.iaddra len sz x i,none⟩::l)::K) fr S=ob (dy len sz (ev fr x) (ev fr i)) fun v=>aE T (.ops l::K) (aS fr d v) S:=eB (by simp only[cB,aH,aW];rfl)
@[simp]def aML {st:Bool} {x:aG}:aE T (.ops (⟨d,.len st x,none⟩::l)::K) fr S=ob (dc st (ev fr x)) fun v=>aE T (.ops l::K) (aS fr d v) S:=eB (by have h:cB T fr S (.len st x)=dL S (aW fr (.len st x)):=by {cases st<;>rfl};rw[h,Sp])
@[simp]def aMM{mx:Bool}{x y:aG}:aE T (.ops (⟨d,.mnmx mx x y,none⟩::l)::K) fr S=ob (dz mx (ev fr x) (ev fr y)) fun v=>aE T (.ops l::K) (aS fr d v) S:=eB (by simp only[cB,aH,aW];rfl)
def cg(S:St)(ag:Bool)(n:Nat):PV→Option PV
 |.ref cs=>az ag n cs
 |.ptr id off=>match S.objs[id]? with|some cs=>az ag n (cs.drop off)|none=>none
 |_=>none
@[simp]def aMN{ag:Bool}{n:Nat}{mix:Bool}{x:aG}:aE T (.ops (⟨d,.load ag n mix x,none⟩::l)::K) fr S=ob (if mix then(match ev fr x with|.ref cs=>az ag n cs|_=>none)else cg S ag n (ev fr x)) fun v=>aE T (.ops l::K) (aS fr d v) S:=by
 cases mix
 ·refine eB ?_;simp only[cB,aH,bp,if_false];cases ev fr x<;>simp only[cg]<;>try rfl
  case ptr id off=>
   cases h:S.objs[id]? with
   |none=>rfl
   |some cs=>cases h2:az ag n (cs.drop off)<;>simp[h2,dL]
 ·exact Ad rfl
def Ae(S:St)(ag:Bool)(n:Nat):PV→PV→Option PV
 |.ptr i _,.ptr id off=>if i=id then cg S ag n (.ptr id off)else none
 |_,_=>none
@[simp]def aMO{S:St}{ag:Bool}{n i o off:Nat}:Ae S ag n (.ptr i o) (.ptr i off)=cg S ag n (.ptr i off):=if_pos rfl
@[simp]def aMP{b:Nat}{ag:Bool}{n:Nat}{x:aG}:aE T (.ops (⟨d,.loadb b ag n x,none⟩::l)::K) fr S=ob (Ae S ag n (fr b) (ev fr x)) fun v=>aE T (.ops l::K) (aS fr d v) S:=by
 refine eB ?_;simp only[cB,aH];cases fr b<;>cases ev fr x<;>simp only[Ae]<;>try rfl
 rename_i i o id off;by_cases hi:i=id
 ·subst hi;simp only[if_true,cg]
  cases h:S.objs[i]? with
  |none=>rfl
  |some cs=>cases h2:az ag n (cs.drop off)<;>simp[h2,dL]
 ·simp only[if_neg hi];rfl
def fR{op:bO}{q:Option (PV×St)}(h:cB T fr S op=q):aE T (.ops (⟨d,op,none⟩::l)::K) fr S=ob q fun x=>aE T (.ops l::K) (aS fr d x.1) x.2:=by rw[Sr,h]
@[simp]def aMQ{n:Nat}{a v:aG}:aE T (.ops (⟨d,.store n a v,none⟩::l)::K) fr S=ob (aH T (aM T) fr S (.store n a v)) fun x=>aE T (.ops l::K) (aS fr d x.1) x.2:=fR rfl
@[simp]def aMR{ro:Bool}{x:aG}:aE T (.ops (⟨d,.box ro x,none⟩::l)::K) fr S=ob (aH T (aM T) fr S (.box ro x)) fun x=>aE T (.ops l::K) (aS fr d x.1) x.2:=fR rfl
@[simp]def aMS{ro:Bool}{z:List PV}:aE T (.ops (⟨d,.alloc ro z,none⟩::l)::K) fr S=ob (aH T (aM T) fr S (.alloc ro z)) fun x=>aE T (.ops l::K) (aS fr d x.1) x.2:=fR rfl
@[simp]def aMT{ro:Bool}{ze:PV}{n:Nat}{ps:List (Nat×aG)}:aE T (.ops (⟨d,.bsl ro ze n ps,none⟩::l)::K) fr S=ob (aH T (aM T) fr S (.bsl ro ze n ps)) fun x=>aE T (.ops l::K) (aS fr d x.1) x.2:=fR rfl
@[simp]def aMU{sz b:Nat}{c:aG}:aE T (.ops (⟨d,.mks sz b c,none⟩::l)::K) fr S=ob (aH T (aM T) fr S (.mks sz b c)) fun x=>aE T (.ops l::K) (aS fr d x.1) x.2:=fR rfl
def Af(sz bytes:Nat)(S:St)(s x:PV):Option (PV×St):=ob (dV S sz x) fun new=>if 0<sz then dF sz bytes S s new else none
@[simp]def aMV{S:St}{sz:Nat}:dV S sz .nils=some []:=rfl
@[simp]def aMW{S:St}{sz:Nat}:dV S sz .emp=some []:=rfl
@[simp]def Ss{S:St}{sz:Nat}{tip:Option (Nat×Nat)}{es sp:List PV}:dV S sz (.sl tip es sp)=if iI sz es then some es else none:=rfl
@[simp]def aMX{S:St}{sz:Nat}{s:List UInt8}:dV S sz (.str s)=if sz=1 then some (aI s)else none:=rfl
def Ag(sz bytes:Nat)(S:St)(s x:PV):Option (PV×St):=ob (dV S sz x) fun new=>if 0<sz then gr sz bytes S s new else none
@[simp]def aMY{sz:Nat}:kL sz .nils=some []:=rfl
@[simp]def aGB{sz:Nat}{tip:Option (Nat×Nat)}{es sp:List PV}:kL sz (.sl tip es sp)=if iI sz es then some es else none:=rfl
@[simp]def aMZ{sz:Nat}{s:List UInt8}:kL sz (.str s)=if sz=1 then some (aI s)else none:=rfl
@[simp]def aM0{sz:Nat}:iI sz []=true:=rfl
@[simp]def aM1{sz:Nat}{e:PV}{l:List PV}:iI sz (e::l)=(e.cells.length==sz):=rfl
@[simp]def aM2{sz bytes:Nat}{S:St}{s x:PV}:Af sz bytes S s x=ob (dV S sz x) fun new=>if 0<sz then dF sz bytes S s new else none:=rfl
@[simp]def aM3{sz bytes:Nat}{S:St}{s x:PV}:Ag sz bytes S s x=ob (dV S sz x) fun new=>if 0<sz then gr sz bytes S s new else none:=rfl
@[simp]def aM4:aE T (.ops (⟨d,.mkm,none⟩::l)::K) fr S=ob (aH T (aM T) fr S .mkm) fun x=>aE T (.ops l::K) (aS fr d x.1) x.2:=fR rfl
@[simp]def aM5{ks:Bool}{ok:Bool}{z:PV}{x k:aG}:aE T (.ops (⟨d,.mlk ks ok z x k,none⟩::l)::K) fr S=ob (aH T (aM T) fr S (.mlk ks ok z x k)) fun x=>aE T (.ops l::K) (aS fr d x.1) x.2:=fR rfl
@[simp]def aM6{ks:Bool}{x k v:aG}:aE T (.ops (⟨d,.mset ks x k v,none⟩::l)::K) fr S=ob (aH T (aM T) fr S (.mset ks x k v)) fun x=>aE T (.ops l::K) (aS fr d x.1) x.2:=fR rfl
@[simp]def aM7{ls:List Nat}{ks:Bool}{x k v:aG}:aE T (.ops (⟨d,.msb ls ks x k v,none⟩::l)::K) fr S=ob (aH T (aM T) fr S (.msb ls ks x k v)) fun x=>aE T (.ops l::K) (aS fr d x.1) x.2:=fR rfl
@[simp]def aM8{ls:List Nat}{x:aG}:aE T (.ops (⟨d,.asrI ls x,none⟩::l)::K) fr S=ob (aW fr (.asrI ls x)) fun v=>aE T (.ops l::K) (aS fr d v) S:=eB (by simp only[cB,aH])
@[simp]def aM9{sz bytes:Nat}{z:List PV}{c:aG}:aE T (.ops (⟨d,.mko sz bytes z c,none⟩::l)::K) fr S=ob (aH T (aM T) fr S (.mko sz bytes z c)) fun x=>aE T (.ops l::K) (aS fr d x.1) x.2:=fR rfl
@[simp]def aNa{n:Nat}{x:aG}:aE T (.ops (⟨d,.nst n x,none⟩::l)::K) fr S=ob (aH T (aM T) fr S (.nst n x)) fun x=>aE T (.ops l::K) (aS fr d x.1) x.2:=fR rfl
@[simp]def aNb{z:PV}{x k:aG}:aE T (.ops (⟨d,.men z x k,none⟩::l)::K) fr S=ob (aH T (aM T) fr S (.men z x k)) fun x=>aE T (.ops l::K) (aS fr d x.1) x.2:=fR rfl
@[simp]def aNc{x k v:aG}:aE T (.ops (⟨d,.est x k v,none⟩::l)::K) fr S=ob (aH T (aM T) fr S (.est x k v)) fun x=>aE T (.ops l::K) (aS fr d x.1) x.2:=fR rfl
@[simp]def aNd{f:Nat}{xs:List aG}:aE T (.ops (⟨d,.mkbfn f xs,none⟩::l)::K) fr S=ob (aH T (aM T) fr S (.mkbfn f xs)) fun x=>aE T (.ops l::K) (aS fr d x.1) x.2:=fR rfl
@[simp]def aNe{sz b:Nat}{s x:aG}:aE T (.ops (⟨d,.app sz b s x,none⟩::l)::K) fr S=ob (Af sz b S (ev fr s) (ev fr x)) fun x=>aE T (.ops l::K) (aS fr d x.1) x.2:=by
 refine fR ?_;simp only[cB,aH,Af];cases dV S sz (ev fr x)<;>rfl
@[simp]def aNf{sz b:Nat}{s x:aG}:aE T (.ops (⟨d,.gapp sz b s x,none⟩::l)::K) fr S=ob (Ag sz b S (ev fr s) (ev fr x)) fun x=>aE T (.ops l::K) (aS fr d x.1) x.2:=by
 refine fR ?_;simp only[cB,aH,Ag];cases dV S sz (ev fr x)<;>rfl
@[simp]def aNg:aE T (.ops (⟨d,.emp0,none⟩::l)::K) fr S=aE T (.ops l::K) (aS fr d .emp) S:=fR rfl
noncomputable def aGC (T:aQ)(f:Nat)(args:List PV)(S:St):PV→Option (PV×St)
 |.ptr i _=>mc i S (aM T f args S)
 |_=>none
@[simp]def aNh{f:Nat}{args:List PV}{S:St}{i o:Nat}:aGC T f args S (.ptr i o)=mc i S (aM T f args S):=rfl
@[simp]def aNi{m:CM}{f:Nat}{xs:List aG}:aE T (.ops (⟨d,.call m f xs,none⟩::l)::K) fr S=ob (ck (aM T) m f (xs.map (ev fr)) S) fun x=>aE T (.ops l::K) (aS fr d x.1) x.2:=fR rfl
noncomputable def sA (T:aQ)(m:CM)(x:PV)(args:List PV)(S:St):Option (PV×St):=match x with|.fn f caps=>ck (aM T) m f (args++caps) S|.bfn f first=>ck (aM T) m f (first++args) S|_=>none
@[simp]def aNj{T:aQ}{m:CM}{f:Nat}{first args:List PV}{S:St}:sA T m (.bfn f first) args S=ck (aM T) m f (first++args) S:=rfl
@[simp]def aNk{m:CM}{f:Nat}{caps args:List PV}:sA T m (.fn f caps) args S=ck (aM T) m f (args++caps) S:=rfl
@[simp]def aNl{m:CM}{x:aG}{xs:List aG}:aE T (.ops (⟨d,.callv m x xs,none⟩::l)::K) fr S=ob (sA T m (ev fr x) (xs.map (ev fr)) S) fun x=>aE T (.ops l::K) (aS fr d x.1) x.2:=fR rfl
noncomputable def aNm (T:aQ)(cm:CM)(m:Nat)(x:PV)(args:List PV)(S:St):Option (PV×St):=match x with|.iface t v=>(match T.meth t m with|some f=>ck (aM T) cm f (v::args) S|none=>none)|_=>none
end
attribute [simp] Pl
def nt(c:Bool):Bool:=!c
def an(c d:Bool):Bool:=c&&d
@[simp]def aGD:nt true=false:=rfl
@[simp]def aGE:nt false=true:=rfl
@[simp]def aNn(d:Bool):an true d=d:=rfl
@[simp]def aNo(d:Bool):an false d=false:=rfl
@[simp]def aNp(d:Bool):an d true=d:=by cases d<;>rfl
@[simp]def aNq(d:Bool):an d false=false:=by cases d<;>rfl
def aF(c:Bool)(x:Option PV):Option PV:=if c=true then x else some (.tup [])
def gd(c:Bool)(v:PV):PV:=if c=true then v else .tup []
@[simp]def aNr(c:Bool)(v:PV):aF c (some v)=some (gd c v):=by cases c<;>rfl
@[simp]def aGF(x:Option PV):aF true x=x:=rfl
@[simp]def aGG(x:Option PV):aF false x=some (.tup []):=rfl
@[simp]def aNs(v:PV):gd true v=v:=rfl
@[simp]def aNt(v:PV):gd false v=.tup []:=rfl
@[congr]def aNu{c c':Bool}{v:PV}(h:c=c'):gd c v=gd c' v:=by rw[h]
def dB(v:PV)(b:Bool)(x:Option PV):Option PV:=match v with|.bool c=>aF (if b then c else !c) x|.tup []=>some (.tup [])|_=>none
@[congr]def aNv{v v':PV}{b:Bool}{x:Option PV}(h:v=v'):dB v b x=dB v' b x:=by rw[h]
@[simp]def aGH(c:Bool)(x:Option PV):dB (.bool c) true x=aF c x:=rfl
@[simp]def aGI(c:Bool)(x:Option PV):dB (.bool c) false x=aF (nt c) x:=rfl
@[simp]def aNw(b:Bool)(x:Option PV):dB (.tup []) b x=some (.tup []):=rfl
@[simp]def aNx(c d:Bool)(x:Option PV):dB (gd c (.bool d)) true x=aF (an c d) x:=by cases c<;>cases d<;>rfl
@[simp]def aNy(c d:Bool)(x:Option PV):dB (gd c (.bool d)) false x=aF (an c (nt d)) x:=by cases c<;>cases d<;>rfl
@[simp]def aNz(c d:Bool):bw (.bool c) (.bool d) (.bool false)=some (.bool (c&&d)):=by cases c<;>rfl
@[simp]def aNA(c d:Bool):bw (.bool c) (.bool true) (.bool d)=some (.bool (c||d)):=by cases c<;>rfl
@[simp]def aNB(a b:PV):bw (.bool true) a b=some a:=rfl
@[simp]def aNC(a b:PV):bw (.bool false) a b=some b:=rfl
noncomputable def hJ (T:aQ)(f:Nat)(args:List PV):Option PV:=if PV.freeL args then di T f (PV.frzL args)else none
def sB{T:aQ}{f:Nat}{args:List PV}(h:PV.freeL args=true):hJ T f args=di T f (PV.frzL args):=if_pos h
@[simp]def aND{T:aQ}{f:Nat}:hJ T f []=di T f []:=by rw[sB (by simp)];simp
@[simp]def aNE{T:aQ}{f:Nat}{a:PV}(h:a.free=true):hJ T f [a]=di T f [a.frz]:=by rw[sB (by simp[h])];simp
@[simp]def aNF{T:aQ}{f:Nat}{a b:PV}(h:a.free=true)(h2:b.free=true):hJ T f [a,b]=di T f [a.frz,b.frz]:=by rw[sB (by simp[h,h2])];simp
@[simp]def aNG{T:aQ}{f:Nat}{a b c:PV}(h:a.free=true)(h2:b.free=true)(h3:c.free=true):hJ T f [a,b,c]=di T f [a.frz,b.frz,c.frz]:=by rw[sB (by simp[h,h2,h3])];simp
@[simp]def sg1{c:Bool}{x:PV}{o:UnOp}:aF c (unOp o (gd c x))=aF c (unOp o x):=by cases c<;>rfl
@[simp]def sg2{c d:Bool}{x:PV}{o:UnOp}:aF (an c d) (unOp o (gd c x))=aF (an c d) (unOp o x):=by cases c<;>cases d<;>rfl
@[simp]def sg3{c d:Bool}{x:PV}{o:UnOp}:aF (an c d) (unOp o (gd d x))=aF (an c d) (unOp o x):=by cases c<;>cases d<;>rfl
@[simp]def sg4{c d e:Bool}{x:PV}{o:UnOp}:aF (an (an c d) e) (unOp o (gd c x))=aF (an (an c d) e) (unOp o x):=by cases c<;>cases d<;>cases e<;>rfl
@[simp]def sg5{c d e:Bool}{x:PV}{o:UnOp}:aF (an (an c d) e) (unOp o (gd (an c d) x))=aF (an (an c d) e) (unOp o x):=by cases c<;>cases d<;>cases e<;>rfl
@[simp]def sg6{c:Bool}{x:PV}{neg:Bool}{k:NK}:aF c (gV neg k (gd c x))=aF c (gV neg k x):=by cases c<;>rfl
@[simp]def sg7{c d:Bool}{x:PV}{neg:Bool}{k:NK}:aF (an c d) (gV neg k (gd c x))=aF (an c d) (gV neg k x):=by cases c<;>cases d<;>rfl
@[simp]def sg8{c d:Bool}{x:PV}{neg:Bool}{k:NK}:aF (an c d) (gV neg k (gd d x))=aF (an c d) (gV neg k x):=by cases c<;>cases d<;>rfl
@[simp]def sg9{c d e:Bool}{x:PV}{neg:Bool}{k:NK}:aF (an (an c d) e) (gV neg k (gd c x))=aF (an (an c d) e) (gV neg k x):=by cases c<;>cases d<;>cases e<;>rfl
@[simp]def aNQ{c d e:Bool}{x:PV}{neg:Bool}{k:NK}:aF (an (an c d) e) (gV neg k (gd (an c d) x))=aF (an (an c d) e) (gV neg k x):=by cases c<;>cases d<;>cases e<;>rfl
@[simp]def aNR{c:Bool}{x:PV}:aF c (fw (gd c x))=aF c (fw x):=by cases c<;>rfl
@[simp]def aNS{c d:Bool}{x:PV}:aF (an c d) (fw (gd c x))=aF (an c d) (fw x):=by cases c<;>cases d<;>rfl
@[simp]def aNT{c d:Bool}{x:PV}:aF (an c d) (fw (gd d x))=aF (an c d) (fw x):=by cases c<;>cases d<;>rfl
@[simp]def aNU{c d e:Bool}{x:PV}:aF (an (an c d) e) (fw (gd c x))=aF (an (an c d) e) (fw x):=by cases c<;>cases d<;>cases e<;>rfl
@[simp]def aNV{c d e:Bool}{x:PV}:aF (an (an c d) e) (fw (gd (an c d) x))=aF (an (an c d) e) (fw x):=by cases c<;>cases d<;>cases e<;>rfl
@[simp]def aNW{c:Bool}{x:PV}{k:IntKind}:aF c (iP k (gd c x))=aF c (iP k x):=by cases c<;>rfl
@[simp]def aNX{c d:Bool}{x:PV}{k:IntKind}:aF (an c d) (iP k (gd c x))=aF (an c d) (iP k x):=by cases c<;>cases d<;>rfl
@[simp]def aNY{c d:Bool}{x:PV}{k:IntKind}:aF (an c d) (iP k (gd d x))=aF (an c d) (iP k x):=by cases c<;>cases d<;>rfl
@[simp]def aNZ{c d e:Bool}{x:PV}{k:IntKind}:aF (an (an c d) e) (iP k (gd c x))=aF (an (an c d) e) (iP k x):=by cases c<;>cases d<;>cases e<;>rfl
@[simp]def aN0{c d e:Bool}{x:PV}{k:IntKind}:aF (an (an c d) e) (iP k (gd (an c d) x))=aF (an (an c d) e) (iP k x):=by cases c<;>cases d<;>cases e<;>rfl
@[simp]def aN1{c:Bool}{x:PV}:aF c (jO (gd c x))=aF c (jO x):=by cases c<;>rfl
@[simp]def aN2{c d:Bool}{x:PV}:aF (an c d) (jO (gd c x))=aF (an c d) (jO x):=by cases c<;>cases d<;>rfl
@[simp]def aN3{c d:Bool}{x:PV}:aF (an c d) (jO (gd d x))=aF (an c d) (jO x):=by cases c<;>cases d<;>rfl
@[simp]def aN4{c d e:Bool}{x:PV}:aF (an (an c d) e) (jO (gd c x))=aF (an (an c d) e) (jO x):=by cases c<;>cases d<;>cases e<;>rfl
@[simp]def aN5{c d e:Bool}{x:PV}:aF (an (an c d) e) (jO (gd (an c d) x))=aF (an (an c d) e) (jO x):=by cases c<;>cases d<;>cases e<;>rfl
@[simp]def aN6{c:Bool}{x:PV}{ag:Bool}{off n:Nat}:aF c (jP ag off n (gd c x))=aF c (jP ag off n x):=by cases c<;>rfl
@[simp]def aN7{c d:Bool}{x:PV}{ag:Bool}{off n:Nat}:aF (an c d) (jP ag off n (gd c x))=aF (an c d) (jP ag off n x):=by cases c<;>cases d<;>rfl
@[simp]def aN8{c d:Bool}{x:PV}{ag:Bool}{off n:Nat}:aF (an c d) (jP ag off n (gd d x))=aF (an c d) (jP ag off n x):=by cases c<;>cases d<;>rfl
@[simp]def aN9{c d e:Bool}{x:PV}{ag:Bool}{off n:Nat}:aF (an (an c d) e) (jP ag off n (gd c x))=aF (an (an c d) e) (jP ag off n x):=by cases c<;>cases d<;>cases e<;>rfl
@[simp]def aOa{c d e:Bool}{x:PV}{ag:Bool}{off n:Nat}:aF (an (an c d) e) (jP ag off n (gd (an c d) x))=aF (an (an c d) e) (jP ag off n x):=by cases c<;>cases d<;>cases e<;>rfl
@[simp]def aOb{c:Bool}{x:PV}{i:Nat}:aF c (iQ i (gd c x))=aF c (iQ i x):=by cases c<;>rfl
@[simp]def aOc{c d:Bool}{x:PV}{i:Nat}:aF (an c d) (iQ i (gd c x))=aF (an c d) (iQ i x):=by cases c<;>cases d<;>rfl
@[simp]def aOd{c d:Bool}{x:PV}{i:Nat}:aF (an c d) (iQ i (gd d x))=aF (an c d) (iQ i x):=by cases c<;>cases d<;>rfl
@[simp]def aOe{c d e:Bool}{x:PV}{i:Nat}:aF (an (an c d) e) (iQ i (gd c x))=aF (an (an c d) e) (iQ i x):=by cases c<;>cases d<;>cases e<;>rfl
@[simp]def aOf{c d e:Bool}{x:PV}{i:Nat}:aF (an (an c d) e) (iQ i (gd (an c d) x))=aF (an (an c d) e) (iQ i x):=by cases c<;>cases d<;>cases e<;>rfl
@[simp]def aOg{c:Bool}{x:PV}{t:Nat}{ok:Bool}{z:PV}:aF c (gz t ok z (gd c x))=aF c (gz t ok z x):=by cases c<;>rfl
@[simp]def aOh{c d:Bool}{x:PV}{t:Nat}{ok:Bool}{z:PV}:aF (an c d) (gz t ok z (gd c x))=aF (an c d) (gz t ok z x):=by cases c<;>cases d<;>rfl
@[simp]def aOi{c d:Bool}{x:PV}{t:Nat}{ok:Bool}{z:PV}:aF (an c d) (gz t ok z (gd d x))=aF (an c d) (gz t ok z x):=by cases c<;>cases d<;>rfl
@[simp]def aOj{c d e:Bool}{x:PV}{t:Nat}{ok:Bool}{z:PV}:aF (an (an c d) e) (gz t ok z (gd c x))=aF (an (an c d) e) (gz t ok z x):=by cases c<;>cases d<;>cases e<;>rfl
@[simp]def aOk{c d e:Bool}{x:PV}{t:Nat}{ok:Bool}{z:PV}:aF (an (an c d) e) (gz t ok z (gd (an c d) x))=aF (an (an c d) e) (gz t ok z x):=by cases c<;>cases d<;>cases e<;>rfl
@[simp]def aOl{c:Bool}{x:PV}{lo hi:Option PV}:aF c (jQ lo hi (gd c x))=aF c (jQ lo hi x):=by cases c<;>rfl
@[simp]def aOm{c d:Bool}{x:PV}{lo hi:Option PV}:aF (an c d) (jQ lo hi (gd c x))=aF (an c d) (jQ lo hi x):=by cases c<;>cases d<;>rfl
@[simp]def aOn{c d:Bool}{x:PV}{lo hi:Option PV}:aF (an c d) (jQ lo hi (gd d x))=aF (an c d) (jQ lo hi x):=by cases c<;>cases d<;>rfl
@[simp]def aOo{c d e:Bool}{x:PV}{lo hi:Option PV}:aF (an (an c d) e) (jQ lo hi (gd c x))=aF (an (an c d) e) (jQ lo hi x):=by cases c<;>cases d<;>cases e<;>rfl
@[simp]def aOp{c d e:Bool}{x:PV}{lo hi:Option PV}:aF (an (an c d) e) (jQ lo hi (gd (an c d) x))=aF (an (an c d) e) (jQ lo hi x):=by cases c<;>cases d<;>cases e<;>rfl
@[simp]def aOq{c:Bool}{x:PV}{sz:Nat}{lo hi:Option PV}:aF c (dx sz lo hi (gd c x))=aF c (dx sz lo hi x):=by cases c<;>rfl
@[simp]def aOr{c d:Bool}{x:PV}{sz:Nat}{lo hi:Option PV}:aF (an c d) (dx sz lo hi (gd c x))=aF (an c d) (dx sz lo hi x):=by cases c<;>cases d<;>rfl
@[simp]def aOs{c d:Bool}{x:PV}{sz:Nat}{lo hi:Option PV}:aF (an c d) (dx sz lo hi (gd d x))=aF (an c d) (dx sz lo hi x):=by cases c<;>cases d<;>rfl
@[simp]def aOt{c d e:Bool}{x:PV}{sz:Nat}{lo hi:Option PV}:aF (an (an c d) e) (dx sz lo hi (gd c x))=aF (an (an c d) e) (dx sz lo hi x):=by cases c<;>cases d<;>cases e<;>rfl
@[simp]def aOu{c d e:Bool}{x:PV}{sz:Nat}{lo hi:Option PV}:aF (an (an c d) e) (dx sz lo hi (gd (an c d) x))=aF (an (an c d) e) (dx sz lo hi x):=by cases c<;>cases d<;>cases e<;>rfl
@[simp]def aOv{c:Bool}{x:PV}{off:Nat}:aF c (hI off (gd c x))=aF c (hI off x):=by cases c<;>rfl
@[simp]def aOw{c d:Bool}{x:PV}{off:Nat}:aF (an c d) (hI off (gd c x))=aF (an c d) (hI off x):=by cases c<;>cases d<;>rfl
@[simp]def aOx{c d:Bool}{x:PV}{off:Nat}:aF (an c d) (hI off (gd d x))=aF (an c d) (hI off x):=by cases c<;>cases d<;>rfl
@[simp]def aOy{c d e:Bool}{x:PV}{off:Nat}:aF (an (an c d) e) (hI off (gd c x))=aF (an (an c d) e) (hI off x):=by cases c<;>cases d<;>cases e<;>rfl
@[simp]def aOz{c d e:Bool}{x:PV}{off:Nat}:aF (an (an c d) e) (hI off (gd (an c d) x))=aF (an (an c d) e) (hI off x):=by cases c<;>cases d<;>cases e<;>rfl
@[simp]def aOA{c:Bool}{x:PV}{st:Bool}:aF c (dc st (gd c x))=aF c (dc st x):=by cases c<;>rfl
@[simp]def aOB{c d:Bool}{x:PV}{st:Bool}:aF (an c d) (dc st (gd c x))=aF (an c d) (dc st x):=by cases c<;>cases d<;>rfl
@[simp]def aOC{c d:Bool}{x:PV}{st:Bool}:aF (an c d) (dc st (gd d x))=aF (an c d) (dc st x):=by cases c<;>cases d<;>rfl
@[simp]def aOD{c d e:Bool}{x:PV}{st:Bool}:aF (an (an c d) e) (dc st (gd c x))=aF (an (an c d) e) (dc st x):=by cases c<;>cases d<;>cases e<;>rfl
@[simp]def aOE{c d e:Bool}{x:PV}{st:Bool}:aF (an (an c d) e) (dc st (gd (an c d) x))=aF (an (an c d) e) (dc st x):=by cases c<;>cases d<;>cases e<;>rfl
@[simp]def aOF{c:Bool}{x:PV}:aF c (fx (gd c x))=aF c (fx x):=by cases c<;>rfl
@[simp]def aOG{c d:Bool}{x:PV}:aF (an c d) (fx (gd c x))=aF (an c d) (fx x):=by cases c<;>cases d<;>rfl
@[simp]def aOH{c d:Bool}{x:PV}:aF (an c d) (fx (gd d x))=aF (an c d) (fx x):=by cases c<;>cases d<;>rfl
@[simp]def aOI{c d e:Bool}{x:PV}:aF (an (an c d) e) (fx (gd c x))=aF (an (an c d) e) (fx x):=by cases c<;>cases d<;>cases e<;>rfl
@[simp]def aOJ{c d e:Bool}{x:PV}:aF (an (an c d) e) (fx (gd (an c d) x))=aF (an (an c d) e) (fx x):=by cases c<;>cases d<;>cases e<;>rfl
@[simp]def aOK{c:Bool}{x:PV}{S:St}{ag:Bool}{n:Nat}:aF c (cg S ag n (gd c x))=aF c (cg S ag n x):=by cases c<;>rfl
@[simp]def aOL{c d:Bool}{x:PV}{S:St}{ag:Bool}{n:Nat}:aF (an c d) (cg S ag n (gd c x))=aF (an c d) (cg S ag n x):=by cases c<;>cases d<;>rfl
@[simp]def aOM{c d:Bool}{x:PV}{S:St}{ag:Bool}{n:Nat}:aF (an c d) (cg S ag n (gd d x))=aF (an c d) (cg S ag n x):=by cases c<;>cases d<;>rfl
@[simp]def aON{c d e:Bool}{x:PV}{S:St}{ag:Bool}{n:Nat}:aF (an (an c d) e) (cg S ag n (gd c x))=aF (an (an c d) e) (cg S ag n x):=by cases c<;>cases d<;>cases e<;>rfl
@[simp]def aOO{c d e:Bool}{x:PV}{S:St}{ag:Bool}{n:Nat}:aF (an (an c d) e) (cg S ag n (gd (an c d) x))=aF (an (an c d) e) (cg S ag n x):=by cases c<;>cases d<;>cases e<;>rfl
@[simp]def aOP{c:Bool}{x y:PV}{o:BinOp}:aF c (arith o (gd c x) y)=aF c (arith o x y):=by cases c<;>rfl
@[simp]def aOQ{c:Bool}{x y:PV}{o:BinOp}:aF c (arith o y (gd c x))=aF c (arith o y x):=by cases c<;>rfl
@[simp]def aOR{c d:Bool}{x y:PV}{o:BinOp}:aF (an c d) (arith o (gd c x) y)=aF (an c d) (arith o x y):=by cases c<;>cases d<;>rfl
@[simp]def aOS{c d:Bool}{x y:PV}{o:BinOp}:aF (an c d) (arith o y (gd c x))=aF (an c d) (arith o y x):=by cases c<;>cases d<;>rfl
@[simp]def aOT{c d:Bool}{x y:PV}{o:BinOp}:aF (an c d) (arith o (gd d x) y)=aF (an c d) (arith o x y):=by cases c<;>cases d<;>rfl
@[simp]def aOU{c d:Bool}{x y:PV}{o:BinOp}:aF (an c d) (arith o y (gd d x))=aF (an c d) (arith o y x):=by cases c<;>cases d<;>rfl
@[simp]def aOV{c d e:Bool}{x y:PV}{o:BinOp}:aF (an (an c d) e) (arith o (gd c x) y)=aF (an (an c d) e) (arith o x y):=by cases c<;>cases d<;>cases e<;>rfl
@[simp]def aOW{c d e:Bool}{x y:PV}{o:BinOp}:aF (an (an c d) e) (arith o y (gd c x))=aF (an (an c d) e) (arith o y x):=by cases c<;>cases d<;>cases e<;>rfl
@[simp]def aOX{c d e:Bool}{x y:PV}{o:BinOp}:aF (an (an c d) e) (arith o (gd (an c d) x) y)=aF (an (an c d) e) (arith o x y):=by cases c<;>cases d<;>cases e<;>rfl
@[simp]def aOY{c d e:Bool}{x y:PV}{o:BinOp}:aF (an (an c d) e) (arith o y (gd (an c d) x))=aF (an (an c d) e) (arith o y x):=by cases c<;>cases d<;>cases e<;>rfl
@[simp]def aOZ{c:Bool}{x y:PV}{neg:Bool}:aF c (eg neg (gd c x) y)=aF c (eg neg x y):=by cases c<;>rfl
@[simp]def aO0{c:Bool}{x y:PV}{neg:Bool}:aF c (eg neg y (gd c x))=aF c (eg neg y x):=by cases c<;>rfl
@[simp]def aO1{c d:Bool}{x y:PV}{neg:Bool}:aF (an c d) (eg neg (gd c x) y)=aF (an c d) (eg neg x y):=by cases c<;>cases d<;>rfl
@[simp]def aO2{c d:Bool}{x y:PV}{neg:Bool}:aF (an c d) (eg neg y (gd c x))=aF (an c d) (eg neg y x):=by cases c<;>cases d<;>rfl
@[simp]def aO3{c d:Bool}{x y:PV}{neg:Bool}:aF (an c d) (eg neg (gd d x) y)=aF (an c d) (eg neg x y):=by cases c<;>cases d<;>rfl
@[simp]def aO4{c d:Bool}{x y:PV}{neg:Bool}:aF (an c d) (eg neg y (gd d x))=aF (an c d) (eg neg y x):=by cases c<;>cases d<;>rfl
@[simp]def aO5{c d e:Bool}{x y:PV}{neg:Bool}:aF (an (an c d) e) (eg neg (gd c x) y)=aF (an (an c d) e) (eg neg x y):=by cases c<;>cases d<;>cases e<;>rfl
@[simp]def aO6{c d e:Bool}{x y:PV}{neg:Bool}:aF (an (an c d) e) (eg neg y (gd c x))=aF (an (an c d) e) (eg neg y x):=by cases c<;>cases d<;>cases e<;>rfl
@[simp]def aO7{c d e:Bool}{x y:PV}{neg:Bool}:aF (an (an c d) e) (eg neg (gd (an c d) x) y)=aF (an (an c d) e) (eg neg x y):=by cases c<;>cases d<;>cases e<;>rfl
@[simp]def aO8{c d e:Bool}{x y:PV}{neg:Bool}:aF (an (an c d) e) (eg neg y (gd (an c d) x))=aF (an (an c d) e) (eg neg y x):=by cases c<;>cases d<;>cases e<;>rfl
@[simp]def aO9{c:Bool}{x y:PV}:aF c (dw (gd c x) y)=aF c (dw x y):=by cases c<;>rfl
@[simp]def aPa{c:Bool}{x y:PV}:aF c (dw y (gd c x))=aF c (dw y x):=by cases c<;>rfl
@[simp]def aPb{c d:Bool}{x y:PV}:aF (an c d) (dw (gd c x) y)=aF (an c d) (dw x y):=by cases c<;>cases d<;>rfl
@[simp]def aPc{c d:Bool}{x y:PV}:aF (an c d) (dw y (gd c x))=aF (an c d) (dw y x):=by cases c<;>cases d<;>rfl
@[simp]def aPd{c d:Bool}{x y:PV}:aF (an c d) (dw (gd d x) y)=aF (an c d) (dw x y):=by cases c<;>cases d<;>rfl
@[simp]def aPe{c d:Bool}{x y:PV}:aF (an c d) (dw y (gd d x))=aF (an c d) (dw y x):=by cases c<;>cases d<;>rfl
@[simp]def aPf{c d e:Bool}{x y:PV}:aF (an (an c d) e) (dw (gd c x) y)=aF (an (an c d) e) (dw x y):=by cases c<;>cases d<;>cases e<;>rfl
@[simp]def aPg{c d e:Bool}{x y:PV}:aF (an (an c d) e) (dw y (gd c x))=aF (an (an c d) e) (dw y x):=by cases c<;>cases d<;>cases e<;>rfl
@[simp]def aPh{c d e:Bool}{x y:PV}:aF (an (an c d) e) (dw (gd (an c d) x) y)=aF (an (an c d) e) (dw x y):=by cases c<;>cases d<;>cases e<;>rfl
@[simp]def aPi{c d e:Bool}{x y:PV}:aF (an (an c d) e) (dw y (gd (an c d) x))=aF (an (an c d) e) (dw y x):=by cases c<;>cases d<;>cases e<;>rfl
@[simp]def aPj{c:Bool}{x y:PV}{len n:Nat}{ag:Bool}:aF c (ef len n ag (gd c x) y)=aF c (ef len n ag x y):=by cases c<;>rfl
@[simp]def aPk{c:Bool}{x y:PV}{len n:Nat}{ag:Bool}:aF c (ef len n ag y (gd c x))=aF c (ef len n ag y x):=by cases c<;>rfl
@[simp]def aPl{c d:Bool}{x y:PV}{len n:Nat}{ag:Bool}:aF (an c d) (ef len n ag (gd c x) y)=aF (an c d) (ef len n ag x y):=by cases c<;>cases d<;>rfl
@[simp]def aPm{c d:Bool}{x y:PV}{len n:Nat}{ag:Bool}:aF (an c d) (ef len n ag y (gd c x))=aF (an c d) (ef len n ag y x):=by cases c<;>cases d<;>rfl
@[simp]def aPn{c d:Bool}{x y:PV}{len n:Nat}{ag:Bool}:aF (an c d) (ef len n ag (gd d x) y)=aF (an c d) (ef len n ag x y):=by cases c<;>cases d<;>rfl
@[simp]def aPo{c d:Bool}{x y:PV}{len n:Nat}{ag:Bool}:aF (an c d) (ef len n ag y (gd d x))=aF (an c d) (ef len n ag y x):=by cases c<;>cases d<;>rfl
@[simp]def aPp{c d e:Bool}{x y:PV}{len n:Nat}{ag:Bool}:aF (an (an c d) e) (ef len n ag (gd c x) y)=aF (an (an c d) e) (ef len n ag x y):=by cases c<;>cases d<;>cases e<;>rfl
@[simp]def aPq{c d e:Bool}{x y:PV}{len n:Nat}{ag:Bool}:aF (an (an c d) e) (ef len n ag y (gd c x))=aF (an (an c d) e) (ef len n ag y x):=by cases c<;>cases d<;>cases e<;>rfl
@[simp]def aPr{c d e:Bool}{x y:PV}{len n:Nat}{ag:Bool}:aF (an (an c d) e) (ef len n ag (gd (an c d) x) y)=aF (an (an c d) e) (ef len n ag x y):=by cases c<;>cases d<;>cases e<;>rfl
@[simp]def aPs{c d e:Bool}{x y:PV}{len n:Nat}{ag:Bool}:aF (an (an c d) e) (ef len n ag y (gd (an c d) x))=aF (an (an c d) e) (ef len n ag y x):=by cases c<;>cases d<;>cases e<;>rfl
@[simp]def aPt{c:Bool}{x y:PV}{sz:Nat}:aF c (cC sz (gd c x) y)=aF c (cC sz x y):=by cases c<;>rfl
@[simp]def aPu{c:Bool}{x y:PV}{sz:Nat}:aF c (cC sz y (gd c x))=aF c (cC sz y x):=by cases c<;>rfl
@[simp]def aPv{c d:Bool}{x y:PV}{sz:Nat}:aF (an c d) (cC sz (gd c x) y)=aF (an c d) (cC sz x y):=by cases c<;>cases d<;>rfl
@[simp]def aPw{c d:Bool}{x y:PV}{sz:Nat}:aF (an c d) (cC sz y (gd c x))=aF (an c d) (cC sz y x):=by cases c<;>cases d<;>rfl
@[simp]def aPx{c d:Bool}{x y:PV}{sz:Nat}:aF (an c d) (cC sz (gd d x) y)=aF (an c d) (cC sz x y):=by cases c<;>cases d<;>rfl
@[simp]def aPy{c d:Bool}{x y:PV}{sz:Nat}:aF (an c d) (cC sz y (gd d x))=aF (an c d) (cC sz y x):=by cases c<;>cases d<;>rfl
@[simp]def aPz{c d e:Bool}{x y:PV}{sz:Nat}:aF (an (an c d) e) (cC sz (gd c x) y)=aF (an (an c d) e) (cC sz x y):=by cases c<;>cases d<;>cases e<;>rfl
@[simp]def aPA{c d e:Bool}{x y:PV}{sz:Nat}:aF (an (an c d) e) (cC sz y (gd c x))=aF (an (an c d) e) (cC sz y x):=by cases c<;>cases d<;>cases e<;>rfl
@[simp]def aPB{c d e:Bool}{x y:PV}{sz:Nat}:aF (an (an c d) e) (cC sz (gd (an c d) x) y)=aF (an (an c d) e) (cC sz x y):=by cases c<;>cases d<;>cases e<;>rfl
@[simp]def aPC{c d e:Bool}{x y:PV}{sz:Nat}:aF (an (an c d) e) (cC sz y (gd (an c d) x))=aF (an (an c d) e) (cC sz y x):=by cases c<;>cases d<;>cases e<;>rfl
@[simp]def aPD{c:Bool}{x y:PV}{len sz:Nat}:aF c (dy len sz (gd c x) y)=aF c (dy len sz x y):=by cases c<;>rfl
@[simp]def aPE{c:Bool}{x y:PV}{len sz:Nat}:aF c (dy len sz y (gd c x))=aF c (dy len sz y x):=by cases c<;>rfl
@[simp]def aPF{c d:Bool}{x y:PV}{len sz:Nat}:aF (an c d) (dy len sz (gd c x) y)=aF (an c d) (dy len sz x y):=by cases c<;>cases d<;>rfl
@[simp]def aPG{c d:Bool}{x y:PV}{len sz:Nat}:aF (an c d) (dy len sz y (gd c x))=aF (an c d) (dy len sz y x):=by cases c<;>cases d<;>rfl
@[simp]def aPH{c d:Bool}{x y:PV}{len sz:Nat}:aF (an c d) (dy len sz (gd d x) y)=aF (an c d) (dy len sz x y):=by cases c<;>cases d<;>rfl
@[simp]def aPI{c d:Bool}{x y:PV}{len sz:Nat}:aF (an c d) (dy len sz y (gd d x))=aF (an c d) (dy len sz y x):=by cases c<;>cases d<;>rfl
@[simp]def aPJ{c d e:Bool}{x y:PV}{len sz:Nat}:aF (an (an c d) e) (dy len sz (gd c x) y)=aF (an (an c d) e) (dy len sz x y):=by cases c<;>cases d<;>cases e<;>rfl
@[simp]def aPK{c d e:Bool}{x y:PV}{len sz:Nat}:aF (an (an c d) e) (dy len sz y (gd c x))=aF (an (an c d) e) (dy len sz y x):=by cases c<;>cases d<;>cases e<;>rfl
@[simp]def aPL{c d e:Bool}{x y:PV}{len sz:Nat}:aF (an (an c d) e) (dy len sz (gd (an c d) x) y)=aF (an (an c d) e) (dy len sz x y):=by cases c<;>cases d<;>cases e<;>rfl
@[simp]def aPM{c d e:Bool}{x y:PV}{len sz:Nat}:aF (an (an c d) e) (dy len sz y (gd (an c d) x))=aF (an (an c d) e) (dy len sz y x):=by cases c<;>cases d<;>cases e<;>rfl
@[simp]def aPN{c:Bool}{x y:PV}{mx:Bool}:aF c (dz mx (gd c x) y)=aF c (dz mx x y):=by cases c<;>rfl
@[simp]def aPO{c:Bool}{x y:PV}{mx:Bool}:aF c (dz mx y (gd c x))=aF c (dz mx y x):=by cases c<;>rfl
@[simp]def aPP{c d:Bool}{x y:PV}{mx:Bool}:aF (an c d) (dz mx (gd c x) y)=aF (an c d) (dz mx x y):=by cases c<;>cases d<;>rfl
@[simp]def aPQ{c d:Bool}{x y:PV}{mx:Bool}:aF (an c d) (dz mx y (gd c x))=aF (an c d) (dz mx y x):=by cases c<;>cases d<;>rfl
@[simp]def aPR{c d:Bool}{x y:PV}{mx:Bool}:aF (an c d) (dz mx (gd d x) y)=aF (an c d) (dz mx x y):=by cases c<;>cases d<;>rfl
@[simp]def aPS{c d:Bool}{x y:PV}{mx:Bool}:aF (an c d) (dz mx y (gd d x))=aF (an c d) (dz mx y x):=by cases c<;>cases d<;>rfl
@[simp]def aPT{c d e:Bool}{x y:PV}{mx:Bool}:aF (an (an c d) e) (dz mx (gd c x) y)=aF (an (an c d) e) (dz mx x y):=by cases c<;>cases d<;>cases e<;>rfl
@[simp]def aPU{c d e:Bool}{x y:PV}{mx:Bool}:aF (an (an c d) e) (dz mx y (gd c x))=aF (an (an c d) e) (dz mx y x):=by cases c<;>cases d<;>cases e<;>rfl
@[simp]def aPV{c d e:Bool}{x y:PV}{mx:Bool}:aF (an (an c d) e) (dz mx (gd (an c d) x) y)=aF (an (an c d) e) (dz mx x y):=by cases c<;>cases d<;>cases e<;>rfl
@[simp]def aPW{c d e:Bool}{x y:PV}{mx:Bool}:aF (an (an c d) e) (dz mx y (gd (an c d) x))=aF (an (an c d) e) (dz mx y x):=by cases c<;>cases d<;>cases e<;>rfl
@[simp]def aPX{c:Bool}{x y:PV}{neg isb:Bool}{n:Nat}:aF c (ec neg isb n (gd c x) y)=aF c (ec neg isb n x y):=by cases c<;>rfl
@[simp]def aPY{c:Bool}{x y:PV}{neg isb:Bool}{n:Nat}:aF c (ec neg isb n y (gd c x))=aF c (ec neg isb n y x):=by cases c<;>rfl
@[simp]def aPZ{c d:Bool}{x y:PV}{neg isb:Bool}{n:Nat}:aF (an c d) (ec neg isb n (gd c x) y)=aF (an c d) (ec neg isb n x y):=by cases c<;>cases d<;>rfl
@[simp]def aP0{c d:Bool}{x y:PV}{neg isb:Bool}{n:Nat}:aF (an c d) (ec neg isb n y (gd c x))=aF (an c d) (ec neg isb n y x):=by cases c<;>cases d<;>rfl
@[simp]def aP1{c d:Bool}{x y:PV}{neg isb:Bool}{n:Nat}:aF (an c d) (ec neg isb n (gd d x) y)=aF (an c d) (ec neg isb n x y):=by cases c<;>cases d<;>rfl
@[simp]def aP2{c d:Bool}{x y:PV}{neg isb:Bool}{n:Nat}:aF (an c d) (ec neg isb n y (gd d x))=aF (an c d) (ec neg isb n y x):=by cases c<;>cases d<;>rfl
@[simp]def aP3{c d e:Bool}{x y:PV}{neg isb:Bool}{n:Nat}:aF (an (an c d) e) (ec neg isb n (gd c x) y)=aF (an (an c d) e) (ec neg isb n x y):=by cases c<;>cases d<;>cases e<;>rfl
@[simp]def aP4{c d e:Bool}{x y:PV}{neg isb:Bool}{n:Nat}:aF (an (an c d) e) (ec neg isb n y (gd c x))=aF (an (an c d) e) (ec neg isb n y x):=by cases c<;>cases d<;>cases e<;>rfl
@[simp]def aP5{c d e:Bool}{x y:PV}{neg isb:Bool}{n:Nat}:aF (an (an c d) e) (ec neg isb n (gd (an c d) x) y)=aF (an (an c d) e) (ec neg isb n x y):=by cases c<;>cases d<;>cases e<;>rfl
@[simp]def aP6{c d e:Bool}{x y:PV}{neg isb:Bool}{n:Nat}:aF (an (an c d) e) (ec neg isb n y (gd (an c d) x))=aF (an (an c d) e) (ec neg isb n y x):=by cases c<;>cases d<;>cases e<;>rfl
@[simp]def aP7{c:Bool}{x:PV}:gd c (gd c x)=gd c x:=by cases c<;>rfl
@[simp]def aP8{c:Bool}{a b p:PV}:aF c (bw (gd c a) b p)=aF c (bw a b p):=by cases c<;>rfl
@[simp]def aP9{c:Bool}{a b p:PV}:aF c (bw a (gd c b) p)=aF c (bw a b p):=by cases c<;>rfl
@[simp]def aQa{c:Bool}{a b p:PV}:aF c (bw a b (gd c p))=aF c (bw a b p):=by cases c<;>rfl
@[simp]def aQb{c d:Bool}{x:PV}:gd (an c d) (gd c x)=gd (an c d) x:=by cases c<;>cases d<;>rfl
@[simp]def aQc{c d:Bool}{a b p:PV}:aF (an c d) (bw (gd c a) b p)=aF (an c d) (bw a b p):=by cases c<;>cases d<;>rfl
@[simp]def aQd{c d:Bool}{a b p:PV}:aF (an c d) (bw a (gd c b) p)=aF (an c d) (bw a b p):=by cases c<;>cases d<;>rfl
@[simp]def aQe{c d:Bool}{a b p:PV}:aF (an c d) (bw a b (gd c p))=aF (an c d) (bw a b p):=by cases c<;>cases d<;>rfl
@[simp]def aQf{c d:Bool}{x:PV}:gd (an c d) (gd d x)=gd (an c d) x:=by cases c<;>cases d<;>rfl
@[simp]def aQg{c d:Bool}{a b p:PV}:aF (an c d) (bw (gd d a) b p)=aF (an c d) (bw a b p):=by cases c<;>cases d<;>rfl
@[simp]def aQh{c d:Bool}{a b p:PV}:aF (an c d) (bw a (gd d b) p)=aF (an c d) (bw a b p):=by cases c<;>cases d<;>rfl
@[simp]def aQi{c d:Bool}{a b p:PV}:aF (an c d) (bw a b (gd d p))=aF (an c d) (bw a b p):=by cases c<;>cases d<;>rfl
@[simp]def aQj{c d e:Bool}{x:PV}:gd (an (an c d) e) (gd c x)=gd (an (an c d) e) x:=by cases c<;>cases d<;>cases e<;>rfl
@[simp]def aQk{c d e:Bool}{a b p:PV}:aF (an (an c d) e) (bw (gd c a) b p)=aF (an (an c d) e) (bw a b p):=by cases c<;>cases d<;>cases e<;>rfl
@[simp]def aQl{c d e:Bool}{a b p:PV}:aF (an (an c d) e) (bw a (gd c b) p)=aF (an (an c d) e) (bw a b p):=by cases c<;>cases d<;>cases e<;>rfl
@[simp]def aQm{c d e:Bool}{a b p:PV}:aF (an (an c d) e) (bw a b (gd c p))=aF (an (an c d) e) (bw a b p):=by cases c<;>cases d<;>cases e<;>rfl
@[simp]def aQn{c d e:Bool}{x:PV}:gd (an (an c d) e) (gd (an c d) x)=gd (an (an c d) e) x:=by cases c<;>cases d<;>cases e<;>rfl
@[simp]def aQo{c d e:Bool}{a b p:PV}:aF (an (an c d) e) (bw (gd (an c d) a) b p)=aF (an (an c d) e) (bw a b p):=by cases c<;>cases d<;>cases e<;>rfl
@[simp]def aQp{c d e:Bool}{a b p:PV}:aF (an (an c d) e) (bw a (gd (an c d) b) p)=aF (an (an c d) e) (bw a b p):=by cases c<;>cases d<;>cases e<;>rfl
@[simp]def aQq{c d e:Bool}{a b p:PV}:aF (an (an c d) e) (bw a b (gd (an c d) p))=aF (an (an c d) e) (bw a b p):=by cases c<;>cases d<;>cases e<;>rfl
@[simp]def aQr{T:aQ}{f:Nat}{c:Bool}{x:PV}:aF c (hJ T f [gd c x])=aF c (hJ T f [x]):=by cases c<;>rfl
@[simp]def aQs{T:aQ}{f:Nat}{c:Bool}{x y:PV}:aF c (hJ T f [gd c x,y])=aF c (hJ T f [x,y]):=by cases c<;>rfl
@[simp]def aQt{T:aQ}{f:Nat}{c:Bool}{x y:PV}:aF c (hJ T f [x,gd c y])=aF c (hJ T f [x,y]):=by cases c<;>rfl
@[simp]def aQu{c:Bool}{a b:PV}:bw (.bool c) (gd c a) b=bw (.bool c) a b:=by cases c<;>rfl
@[simp]def aQv{c:Bool}{a b:PV}:bw (.bool c) a (gd (nt c) b)=bw (.bool c) a b:=by cases c<;>rfl
@[simp]def aQw{g c:Bool}{a b:PV}:aF g (bw (.bool c) (gd (an g c) a) b)=aF g (bw (.bool c) a b):=by cases g<;>cases c<;>rfl
@[simp]def aQx{g c:Bool}{a b:PV}:aF g (bw (.bool c) a (gd (an g (nt c)) b))=aF g (bw (.bool c) a b):=by cases g<;>cases c<;>rfl
section
variable {T : aQ} {K : List Kt} {fr : Fr} {S : St} {d t : Nat} {gb : Bool} {l : List aB}
def eI{op:bO}{q:Option PV}(h:cB T fr S op=dL S q):aE T (.ops (⟨some d,op,some (t,gb)⟩::l)::K) fr S=ob (dB (fr t) gb q) fun v=>aE T (.ops l::K) (upd fr d v) S:=by
 rw[jo];cases hv:fr t<;>try rfl
 ·rename_i c;rw[aGz];cases c<;>cases gb<;>simp only[aGH,aGI,aGF,aGG,aGD,aGE,if_true,pE,bp,Bool.true_eq_false,if_false]<;>first|rfl|exact eB h
 ·rename_i vs;cases vs<;>rfl
@[simp]def aQy{x:aG}:aE T (.ops (⟨some d,.mov x,some (t,gb)⟩::l)::K) fr S=ob (dB (fr t) gb (some (ev fr x))) fun v=>aE T (.ops l::K) (upd fr d v) S:=eI rfl
@[simp]def aQz{t':Nat}{x:aG}:aE T (.ops (⟨some d,.mkif t' x,some (t,gb)⟩::l)::K) fr S=ob (dB (fr t) gb (some (.iface t' (ev fr x)))) fun v=>aE T (.ops l::K) (upd fr d v) S:=eI rfl
@[simp]def aQA{f:Nat}{caps:List aG}:aE T (.ops (⟨some d,.mkfn f caps,some (t,gb)⟩::l)::K) fr S=ob (dB (fr t) gb (some (.fn f (caps.map (ev fr))))) fun v=>aE T (.ops l::K) (upd fr d v) S:=eI rfl
@[simp]def aQB{c a b:aG}:aE T (.ops (⟨some d,.pick c a b,some (t,gb)⟩::l)::K) fr S=ob (dB (fr t) gb (bw (ev fr c) (ev fr a) (ev fr b))) fun v=>aE T (.ops l::K) (upd fr d v) S:=eI rfl
@[simp]def aQC{o:BinOp}{x y:aG}:aE T (.ops (⟨some d,.arith o x y,some (t,gb)⟩::l)::K) fr S=ob (dB (fr t) gb (arith o (ev fr x) (ev fr y))) fun v=>aE T (.ops l::K) (upd fr d v) S:=eI rfl
@[simp]def aQD{o:UnOp}{x:aG}:aE T (.ops (⟨some d,.un o x,some (t,gb)⟩::l)::K) fr S=ob (dB (fr t) gb (unOp o (ev fr x))) fun v=>aE T (.ops l::K) (upd fr d v) S:=eI rfl
@[simp]def aQE{neg:Bool}{k:NK}{x:aG}:aE T (.ops (⟨some d,.eqn neg k x,some (t,gb)⟩::l)::K) fr S=ob (dB (fr t) gb (gV neg k (ev fr x))) fun v=>aE T (.ops l::K) (upd fr d v) S:=eI rfl
@[simp]def aQF{x:aG}:aE T (.ops (⟨some d,.nilck x,some (t,gb)⟩::l)::K) fr S=ob (dB (fr t) gb (fw (ev fr x))) fun v=>aE T (.ops l::K) (upd fr d v) S:=eI (by simp only[cB,aH,aW];rfl)
@[simp]def aQG{neg:Bool}{n:Nat}{x y:aG}:aE T (.ops (⟨some d,.eqs neg n x y,some (t,gb)⟩::l)::K) fr S=ob (dB (fr t) gb (Ac neg n (ev fr x) (ev fr y))) fun v=>aE T (.ops l::K) (upd fr d v) S:=eI (by simp only[cB,aH,aW];rfl)
@[simp]def aQH{k:IntKind}{x:aG}:aE T (.ops (⟨some d,.toInt k x,some (t,gb)⟩::l)::K) fr S=ob (dB (fr t) gb (iP k (ev fr x))) fun v=>aE T (.ops l::K) (upd fr d v) S:=eI (by simp only[cB,aH,aW];rfl)
@[simp]def aQI{x:aG}:aE T (.ops (⟨some d,.toStr x,some (t,gb)⟩::l)::K) fr S=ob (dB (fr t) gb (fx (ev fr x))) fun v=>aE T (.ops l::K) (upd fr d v) S:=eI rfl
@[simp]def aQJ{z:List PV}{ps:List (Nat×Nat×aG)}:aE T (.ops (⟨some d,.build z ps,some (t,gb)⟩::l)::K) fr S=ob (dB (fr t) gb (aW fr (.build z ps))) fun v=>aE T (.ops l::K) (upd fr d v) S:=eI rfl
@[simp]def aQK{i:Nat}{x:aG}:aE T (.ops (⟨some d,.extract i x,some (t,gb)⟩::l)::K) fr S=ob (dB (fr t) gb (iQ i (ev fr x))) fun v=>aE T (.ops l::K) (upd fr d v) S:=eI (by simp only[cB,aH,aW];rfl)
@[simp]def aQL{t':Nat}{ok:Bool}{z:PV}{x:aG}:aE T (.ops (⟨some d,.assert t' ok z x,some (t,gb)⟩::l)::K) fr S=ob (dB (fr t) gb (gz t' ok z (ev fr x))) fun v=>aE T (.ops l::K) (upd fr d v) S:=eI (by simp only[cB,aH,aW];rfl)
@[simp]def aQM{x i:aG}:aE T (.ops (⟨some d,.idxs x i,some (t,gb)⟩::l)::K) fr S=ob (dB (fr t) gb (dw (ev fr x) (ev fr i))) fun v=>aE T (.ops l::K) (upd fr d v) S:=eI (by simp only[cB,aH,aW];rfl)
@[simp]def aQN{sz:Nat}{lo hi:Option aG}{x:aG}:aE T (.ops (⟨some d,.slc sz lo hi x,some (t,gb)⟩::l)::K) fr S=ob (dB (fr t) gb (dx sz (cG fr lo) (cG fr hi) (ev fr x))) fun v=>aE T (.ops l::K) (upd fr d v) S:=eI (by simp only[cB,aH,aW];rfl)
@[simp]def aQO{off:Nat}{x:aG}:aE T (.ops (⟨some d,.faddr off x,some (t,gb)⟩::l)::K) fr S=ob (dB (fr t) gb (hI off (ev fr x))) fun v=>aE T (.ops l::K) (upd fr d v) S:=eI (by simp only[cB,aH,aW];rfl)
@[simp]def aQP{sz:Nat}{x i:aG}:aE T (.ops (⟨some d,.iaddr sz x i,some (t,gb)⟩::l)::K) fr S=ob (dB (fr t) gb (cC sz (ev fr x) (ev fr i))) fun v=>aE T (.ops l::K) (upd fr d v) S:=eI (by simp only[cB,aH,aW];rfl)
@[simp]def aQQ{len sz:Nat}{x i:aG}:aE T (.ops (⟨some d,.iaddra len sz x i,some (t,gb)⟩::l)::K) fr S=ob (dB (fr t) gb (dy len sz (ev fr x) (ev fr i))) fun v=>aE T (.ops l::K) (upd fr d v) S:=eI (by simp only[cB,aH,aW];rfl)
@[simp]def aQR {st:Bool} {x:aG}:aE T (.ops (⟨some d,.len st x,some (t,gb)⟩::l)::K) fr S=ob (dB (fr t) gb (dc st (ev fr x))) fun v=>aE T (.ops l::K) (upd fr d v) S:=eI (by have h:cB T fr S (.len st x)=dL S (aW fr (.len st x)):=by {cases st<;>rfl};rw[h,Sp])
@[simp]def aQS{mx:Bool}{x y:aG}:aE T (.ops (⟨some d,.mnmx mx x y,some (t,gb)⟩::l)::K) fr S=ob (dB (fr t) gb (dz mx (ev fr x) (ev fr y))) fun v=>aE T (.ops l::K) (upd fr d v) S:=eI (by simp only[cB,aH,aW];rfl)
@[simp]def aQT{d:Option Nat}{n:Nat}{a v:aG}:aE T (.ops (⟨d,.store n a v,some (t,gb)⟩::l)::K) fr S=fg (fr t) gb (aE T (.ops (⟨d,.store n a v,none⟩::l)::K) fr S) (aE T (.ops l::K) (aS fr d (.tup [])) S):=jo
@[simp]def aQU{d:Option Nat}{ro:Bool}{x:aG}:aE T (.ops (⟨d,.box ro x,some (t,gb)⟩::l)::K) fr S=fg (fr t) gb (aE T (.ops (⟨d,.box ro x,none⟩::l)::K) fr S) (aE T (.ops l::K) (aS fr d (.tup [])) S):=jo
@[simp]def aQV{d:Option Nat}{ro:Bool}{z:List PV}:aE T (.ops (⟨d,.alloc ro z,some (t,gb)⟩::l)::K) fr S=fg (fr t) gb (aE T (.ops (⟨d,.alloc ro z,none⟩::l)::K) fr S) (aE T (.ops l::K) (aS fr d (.tup [])) S):=jo
@[simp]def aQW{d:Option Nat}{ro:Bool}{ze:PV}{n:Nat}{ps:List (Nat×aG)}:aE T (.ops (⟨d,.bsl ro ze n ps,some (t,gb)⟩::l)::K) fr S=fg (fr t) gb (aE T (.ops (⟨d,.bsl ro ze n ps,none⟩::l)::K) fr S) (aE T (.ops l::K) (aS fr d (.tup [])) S):=jo
@[simp]def aQX{d:Option Nat}{sz b:Nat}{c:aG}:aE T (.ops (⟨d,.mks sz b c,some (t,gb)⟩::l)::K) fr S=fg (fr t) gb (aE T (.ops (⟨d,.mks sz b c,none⟩::l)::K) fr S) (aE T (.ops l::K) (aS fr d (.tup [])) S):=jo
@[simp]def aQY{d:Option Nat}{sz b:Nat}{s x:aG}:aE T (.ops (⟨d,.app sz b s x,some (t,gb)⟩::l)::K) fr S=fg (fr t) gb (aE T (.ops (⟨d,.app sz b s x,none⟩::l)::K) fr S) (aE T (.ops l::K) (aS fr d (.tup [])) S):=jo
@[simp]def aQZ{d:Option Nat}{sz b:Nat}{s x:aG}:aE T (.ops (⟨d,.gapp sz b s x,some (t,gb)⟩::l)::K) fr S=fg (fr t) gb (aE T (.ops (⟨d,.gapp sz b s x,none⟩::l)::K) fr S) (aE T (.ops l::K) (aS fr d (.tup [])) S):=jo
@[simp]def aQ0{d:Option Nat}{m:CM}{f:Nat}{xs:List aG}:aE T (.ops (⟨d,.call m f xs,some (t,gb)⟩::l)::K) fr S=fg (fr t) gb (aE T (.ops (⟨d,.call m f xs,none⟩::l)::K) fr S) (aE T (.ops l::K) (aS fr d (.tup [])) S):=jo
@[simp]def aQ1{d:Option Nat}{m:CM}{x:aG}{xs:List aG}:aE T (.ops (⟨d,.callv m x xs,some (t,gb)⟩::l)::K) fr S=fg (fr t) gb (aE T (.ops (⟨d,.callv m x xs,none⟩::l)::K) fr S) (aE T (.ops l::K) (aS fr d (.tup [])) S):=jo
def aGJ{ag:Bool}{n:Nat}{mix:Bool}{x:aG}:cB T fr S (.load ag n mix x)=dL S (if mix then(match ev fr x with|.ref cs=>az ag n cs|_=>none)else cg S ag n (ev fr x)):=by
 cases mix
 ·simp only[cB,aH,bp,if_false];cases ev fr x<;>simp only[cg]<;>try rfl
  case ptr id off=>
   cases h:S.objs[id]? with
   |none=>rfl
   |some cs=>cases h2:az ag n (cs.drop off)<;>simp[h2,dL]
 ·rfl
@[simp]def aQ2{ag:Bool}{n:Nat}{mix:Bool}{x:aG}:aE T (.ops (⟨some d,.load ag n mix x,some (t,gb)⟩::l)::K) fr S=ob (dB (fr t) gb (if mix then(match ev fr x with|.ref cs=>az ag n cs|_=>none)else cg S ag n (ev fr x))) fun v=>aE T (.ops l::K) (upd fr d v) S:=eI aGJ
@[simp 1100] def aQ3 {f:Nat}{xs:List aG}:aE T (.ops (⟨some d,.call .pur f xs,some (t,gb)⟩::l)::K) fr S=ob (dB (fr t) gb (hJ T f (xs.map (ev fr)))) fun v=>aE T (.ops l::K) (upd fr d v) S:=by
 refine eI ?_;show ck (aM T) .pur f _ S=_;rw[Pl];unfold hJ;split<;>rfl
end
@[simp]def aQ4{T:aQ}{f:Nat}{args:List PV}{S:St}:ck (aM T) .std f args S=aM T f args S:=rfl
@[simp]def aQ5{S:St}{v:PV}:dL S (some v)=some (v,S):=rfl
@[simp]def aQ6{S:St}:dL S none=none:=rfl
@[simp]def aGK{r:PV}{S:St}:tW (some (r,S))=if r.free then some r.frz else none:=rfl
def nV{T:aQ}{f:Nat}{args:List PV}{r:PV}{S:St}(h:aM T f args bT=some (r,S))(hf:r.free=true):di T f args=some r.frz:=by
 rw[di,h,aGK,if_pos hf]
def Sv{T:aQ}{f:Nat}{c:aU}(hf:T.fn f=some (.code c)){args:List PV}{S:St}{x:PV×St}(ha:args.length=c.params)
  (h:ob (aE T [.code c.body] (bg args) S) (fun y=>ob (bh y.1 y.2 c.results) fun vs=>some (ak c.raw S y.2 (bu vs)))=some x):aM T f args S=some x:=by
 refine Yx c hf ha ?_
 cases hg:aE T [.code c.body] (bg args) S with
 |none=>rw[hg]at h;cases h
 |some y=>
  rw[hg]at h;simp only[pE]at h;simp only[vv]
  cases hr:bh y.1 y.2 c.results with
  |none=>rw[hr]at h;cases h
  |some vs=>rw[hr]at h;exact h
attribute [simp] bg bh fN bu
@[simp]def aQ7(S:St)(sz:Nat)(es:List PV):(dQ S sz es).1=.sl (some (S.tips.length,es.length)) es []:=rfl
@[simp]def aQ8(S:St)(sz:Nat)(es:List PV):(dQ S sz es).2.objs=S.objs:=rfl
@[simp]def aQ9(S:St)(sz:Nat)(es:List PV):(dQ S sz es).2.tips=S.tips++[(es.length,sz)]:=rfl
def au{n:Int}(h1:-9223372036854775808≤n)(h2:n<9223372036854775808):IntKind.i64.wrap n=n:=by
 have e:IntKind.i64.wrap n=if n%18446744073709551616≥9223372036854775808 then n%18446744073709551616-18446744073709551616 else n%18446744073709551616:=by
  simp[IntKind.wrap,IntKind.bits,IntKind.signed]
 rw[e];split<;>omega
def vI{n:Int}(h1:0≤n)(h2:n<256):IntKind.u8.wrap n=n:=by
 have e:IntKind.u8.wrap n=n%256:=by
  simp[IntKind.wrap,IntKind.bits,IntKind.signed]
 rw[e];omega
def jt{a:Nat}(h:a<9223372036854775807):IntKind.i64.wrap ((a:Int)+1)=((a+1:Nat):Int):=by
 rw[au]<;>omega
def aGL{S1:St}{r r':PV}(h:sol S1.objs 0 eF r=some r'):ak false bT S1 r=(r'.frz,bT):=by
 unfold ak;simp only[bp,if_false];have h0:bT.objs.length=0:=rfl;have h1:bT.tips.length=0:=rfl;rw[h0,h,h1];simp[PV.beqLL,bT]
@[simp]def aRa{S1:St}{r:PV}(h:r.free=true):ak false bT S1 r=(r.frz,bT):=by
 refine aGL ?_;unfold eF sol;rw[if_pos h]
def Ah{b:Bool}{S S1:St}{r:PV}(h1:S1.objs.length=S.objs.length)(h2:S1.tips=S.tips)(hf:r.free=true)(hz:r.frz=r)(hq:∀l m:List (List PV),PV.beqLL l m=true→l=m):ak b S S1 r=(r,S1):=by
 unfold ak;have hs:sol S1.objs S.objs.length eF r=some r:=by unfold eF sol;rw[if_pos hf]
 have ht:S1.objs.take S.objs.length=S1.objs:=by rw[←h1];simp
 have ht2:S1.tips.take S.tips.length=S1.tips:=by rw[h2];simp
 rw[hs,ht,ht2];split
 ·rfl
 ·simp only[hz];split
  ·rename_i h;rw[←hq _ _ h]
  ·split<;>rfl
def Acc(sz:Nat)(S:St)(v:PV)(es:List PV):Prop:=
 (v=.nils∧es=[])∨∃id,v=.sl (some (id,es.length)) es []∧S.tips[id]?=some (es.length,sz)
end Ps
