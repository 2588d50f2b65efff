/- Rules for walking a function by rewriting. -/
import Derived.Test.YtbjefjhmnojdoaaGreatDefs
import Derived.Test.YtbjefjhmnojdoaaGreatGo
set_option linter.defProp false
namespace Ps
open Go
def aT{l m:List aF}(h:l=m)(T:bH)(K:List Kt)(fr:Fr)(S:St):aJ T (.ops l::K) fr S=aJ T (.ops m::K) fr S:=by rw[h]
def cL{l m:az}(h:l=m)(T:bH)(K:List Kt)(fr:Fr)(S:St):aJ T (.code l::K) fr S=aJ T (.code m::K) fr S:=by rw[h]
abbrev aG(a b:Nat)(r:List aF):az:=.clr [(a,b)] (.region r)
abbrev ad(r:List aF):az:=.region r
abbrev aE(a b:az):az:=.seq a b
def aH{l m:List aF}{p:Prop}(h:l=m)(g:p):(∀(T:bH) (K:List Kt) (fr:Fr) (S:St),aJ T (.ops l::K) fr S=aJ T (.ops m::K) fr S)∧p:=⟨aT h,g⟩
abbrev V(n:Nat):aM:=.tmp n
abbrev I(n:Int):aM:=.cst (.int .i64 n)
abbrev bh:aM:=.cst (.bool true)
abbrev au:aM:=.cst (.bool false)
abbrev Q(d:Nat)(op:cK):aF:=⟨some d,op,none⟩
abbrev QN(op:cK):aF:=⟨none,op,none⟩
abbrev QG(d:Option Nat)(op:cK)(t:Nat)(b:Bool):aF:=⟨d,op,some (t,b)⟩
abbrev M(d s:Nat):aF:=⟨some d,.mov (.tmp s),none⟩
abbrev bN(d s:Nat):aF:=⟨some d,.nilck (.tmp s),none⟩
abbrev FA(d k s:Nat):aF:=⟨some d,.faddr k (.tmp s),none⟩
abbrev LD(d s:Nat):aF:=⟨some d,.load false 1 false (.tmp s),none⟩
abbrev EX(d k s:Nat):aF:=⟨some d,.extract k (.tmp s),none⟩
@[simp]def aQY:PV.und.cells=[PV.und]:=rfl
@[simp]def aQZ:PV.und.one=false:=rfl
@[simp]def oc(k:IntKind)(n:Int):(PV.int k n).cells=[(PV.int k n)]:=rfl
@[simp]def aQ0(k:IntKind)(n:Int):(PV.int k n).one=true:=rfl
@[simp]def aQ1(b:Bool):(PV.bool b).cells=[(PV.bool b)]:=rfl
@[simp]def aQ2(b:Bool):(PV.bool b).one=true:=rfl
@[simp]def ZQ(s:List UInt8):(PV.str s).cells=[(PV.str s)]:=rfl
@[simp]def aQ3(s:List UInt8):(PV.str s).one=true:=rfl
@[simp]def aQ4:PV.nilp.cells=[PV.nilp]:=rfl
@[simp]def aQ5:PV.nilp.one=true:=rfl
@[simp]def aQ6:PV.nils.cells=[PV.nils]:=rfl
@[simp]def aQ7:PV.nils.one=true:=rfl
@[simp]def aQ8:PV.nili.cells=[PV.nili]:=rfl
@[simp]def aQ9:PV.nili.one=true:=rfl
@[simp]def aRa:PV.nilf.cells=[PV.nilf]:=rfl
@[simp]def aRb:PV.nilf.one=true:=rfl
@[simp]def aRc(i o:Nat):(PV.ptr i o).cells=[(PV.ptr i o)]:=rfl
@[simp]def aRd(i o:Nat):(PV.ptr i o).one=true:=rfl
@[simp]def aRe(cs:List PV):(PV.ref cs).cells=[(PV.ref cs)]:=rfl
@[simp]def aRf(cs:List PV):(PV.ref cs).one=true:=rfl
@[simp]def aRg(t:Option (Nat×Nat))(a b:List PV):(PV.sl t a b).cells=[(PV.sl t a b)]:=rfl
@[simp]def aRh(t:Option (Nat×Nat))(a b:List PV):(PV.sl t a b).one=true:=rfl
@[simp]def aRi(i o n s:Nat):(PV.osl i o n s).cells=[(PV.osl i o n s)]:=rfl
@[simp]def aRj(i o n s:Nat):(PV.osl i o n s).one=true:=rfl
@[simp]def aRk:PV.emp.cells=[PV.emp]:=rfl
@[simp]def aRl:PV.emp.one=true:=rfl
@[simp]def aRm(t:Nat)(v:PV):(PV.iface t v).cells=[(PV.iface t v)]:=rfl
@[simp]def aRn(t:Nat)(v:PV):(PV.iface t v).one=true:=rfl
@[simp]def ZR(cs:List PV):(PV.agg cs).cells=cs:=rfl
@[simp]def aRo(cs:List PV):(PV.agg cs).one=false:=rfl
@[simp]def aRp(cs:List PV):(PV.tup cs).cells=[(PV.tup cs)]:=rfl
@[simp]def aRq(cs:List PV):(PV.tup cs).one=false:=rfl
@[simp]def aRr(f:Nat)(cs:List PV):(PV.fn f cs).cells=[(PV.fn f cs)]:=rfl
@[simp]def aRs(f:Nat)(cs:List PV):(PV.fn f cs).one=true:=rfl
@[simp]def aRt:PV.nilm.cells=[PV.nilm]:=rfl
@[simp]def aRu:PV.nilm.one=true:=rfl
@[simp]def aRv(i:Nat):(PV.hnd i).cells=[(PV.hnd i)]:=rfl
@[simp]def aRw(i:Nat):(PV.hnd i).one=true:=rfl
@[simp]def aRx(i:Nat):(PV.map i).cells=[(PV.map i)]:=rfl
@[simp]def aRy(i:Nat):(PV.map i).one=true:=rfl
@[simp]def aRz(f:Nat)(cs:List PV):(PV.bfn f cs).cells=[(PV.bfn f cs)]:=rfl
@[simp]def aRA(f:Nat)(cs:List PV):(PV.bfn f cs).one=true:=rfl
attribute [simp] PV.free PV.freeL PV.frz PV.frzL
mutual
theorem ZS:∀v:PV,PV.beq v v=true
 |.und=>rfl
 |.int k n=>by simp[PV.beq]
 |.bool b=>by simp[PV.beq]
 |.str s=>by simp[PV.beq]
 |.nilp=>rfl
 |.nils=>rfl
 |.nili=>rfl
 |.nilf=>rfl
 |.ptr i o=>by simp[PV.beq]
 |.ref cs=>by simp[PV.beq,kU cs]
 |.sl t a b=>by simp[PV.beq,kU a,kU b]
 |.osl i o n s=>by simp[PV.beq]
 |.emp=>rfl
 |.iface t v=>by simp[PV.beq,ZS v]
 |.agg cs=>by simp[PV.beq,kU cs]
 |.tup cs=>by simp[PV.beq,kU cs]
 |.fn f cs=>by simp[PV.beq,kU cs]
 |.nilm=>rfl
 |.map i=>by simp[PV.beq]
 |.hnd i=>by simp[PV.beq]
 |.bfn f cs=>by simp[PV.beq,kU cs]
theorem kU:∀l:List PV,PV.beqL l l=true
 | []=>rfl
 |v::l=>by simp[PV.beqL,ZS v,kU l]
end
theorem vm:∀l:List (List PV),PV.beqLL l l=true
 | []=>rfl
 |v::l=>by simp[PV.beqLL,kU v,vm l]
def ob{α β:Type}:Option α→(α→Option β)→Option β
 |some x,f=>f x
 |none,_=>none
@[simp]def od{α β:Type}(x:α)(f:α→Option β):ob (some x) f=f x:=rfl
@[simp]def aRB{α β:Type}(f:α→Option β):ob none f=none:=rfl
@[congr]def aRC{α β:Type}{a a':Option α}{f:α→Option β}(h:a=a'):ob a f=ob a' f:=by rw[h]
@[congr]def aRD{T:bH}{K:List Kt}{fr fr':Fr}{S S':St}(h1:fr=fr')(h2:S=S'):aJ T K fr S=aJ T K fr' S':=by rw[h1,h2]
@[congr]def aRE{α:Type}{v v':PV}{a b:Option α}(h:v=v'):br v a b=br v' a b:=by rw[h]
@[congr]def aRF{α:Type}{v v':PV}{c:Bool}{a b:Option α}(h:v=v'):ft v c a b=ft v' c a b:=by rw[h]
@[simp]def aMx(fr:Fr)(d:Nat)(v:PV)(t:Nat):bw fr d v t=cond (t==d) v (fr t):=rfl
@[simp]def aRG(fr:Fr):clrs [] fr=fr:=rfl
@[simp]def aRH(a b:Nat)(l:List (Nat×Nat))(fr:Fr):clrs ((a,b)::l) fr=clrs l (dO a b fr):=rfl
@[simp]def aRI(lo hi t:Nat):iQ lo hi t=((lo-t==0)&&(t+1-hi==0)):=rfl
@[simp]def aRJ(lo hi:Nat)(fr:Fr)(t:Nat):dO lo hi fr t=cond (iQ lo hi t) .und (fr t):=rfl
def ZT(lo hi:Nat)(fr:Fr)(d:Nat)(v:PV):dO lo hi (bw fr d v)=cond (iQ lo hi d) (dO lo hi fr) (bw (dO lo hi fr) d v):=by
 funext t
 cases h:(iQ lo hi d)with
 |true=>
  simp only[cond_true,dO,bw]
  cases h2:(iQ lo hi t)with
  |true=>rfl
  |false=>
   have:(t==d)=false:=by
    rw[jw];intro e;rw[beq_iff_eq]at e;subst e;rw[h]at h2;cases h2
   simp[this]
 |false=>
  simp only[cond_false,dO,bw]
  cases h2:(iQ lo hi t)with
  |true=>
   have:(t==d)=false:=by
    rw[jw];intro e;rw[beq_iff_eq]at e;subst e;rw[h]at h2;cases h2
   simp[this]
  |false=>simp
@[simp]def aRK(lo hi:Nat)(fr:Fr)(d:Nat)(v:PV)(h:(iQ lo hi d)=true):dO lo hi (bw fr d v)=dO lo hi fr:=by rw[ZT,h];rfl
@[simp]def aRL(lo hi:Nat)(fr:Fr)(d:Nat)(v:PV)(h:(iQ lo hi d)=false):dO lo hi (bw fr d v)=bw (dO lo hi fr) d v:=by rw[ZT,h];rfl
@[simp]def aRM(lo hi:Nat)(fr:Fr):dO lo hi (dO lo hi fr)=dO lo hi fr:=by
 funext t;simp only[dO];cases(iQ lo hi t)<;>rfl
@[simp]def aRN(fr:Fr)(d:Nat)(v:PV):aw fr (some d) v=bw fr d v:=rfl
@[simp]def aRO(fr:Fr)(v:PV):aw fr none v=fr:=rfl
@[simp]def aRP(fr:Fr)(t:Nat):ev fr (.tmp t)=fr t:=rfl
@[simp]def aRQ(fr:Fr)(v:PV):ev fr (.cst v)=v:=rfl
@[simp]def aRR(fr:Fr):cW fr none=none:=rfl
@[simp]def aRS(fr:Fr)(x:aM):cW fr (some x)=some (ev fr x):=rfl
attribute [simp] Dg aCF aCG aCH Vt Vu aCI aCJ aCN aCK aCL aCM Vv aCQ aCO aCP im
def aMy{α:Type}{a b:Option α}{c d:Bool}:ft (.bool c) d a b=if c=d then a else b:=by cases c<;>cases d<;>rfl
@[simp]def aRT{α:Type}{a b:Option α}{c:Bool}:ft (.bool c) true a b=br (.bool c) a b:=by cases c<;>rfl
@[simp]def aRU{α:Type}{a b:Option α}{c:Bool}:ft (.bool c) false a b=br (.bool c) b a:=by cases c<;>rfl
@[simp]def aRV{α:Type}{a b:Option α}{d:Bool}:ft (.tup []) d a b=b:=rfl
def iX:PV→Option PV
 |.ptr i o=>some (.ptr i o)
 |.ref cs=>some (.ref cs)
 |.iface t v=>some (.iface t v)
 |.fn f cs=>some (.fn f cs)
 |.bfn f cs=>some (.bfn f cs)
 |_=>none
def fS(neg isb:Bool)(n:Nat):PV→PV→Option PV
 |.agg a,.agg b=>if a.length=n∧b.length=n then(match dy isb a b with|some r=>some (iC neg r)|none=>none)else none
 |_,_=>none
def jq(k:IntKind):PV→Option PV
 |.int _ n=>some (.int k (k.wrap n))
 |_=>none
def jr:PV→Option PV
 |.str s=>some (.str s)
 |_=>none
def js(ag:Bool)(off n:Nat):PV→Option PV
 |.agg cs=>ae ag n (cs.drop off)
 |_=>none
def jt(i:Nat):PV→Option PV
 |.tup vs=>vs[i]?
 |_=>none
def jT(t:Nat)(ok:Bool)(z:PV):PV→Option PV
 |.nili=>if ok then some (.tup [z,.bool false])else none
 |.iface u v=>if u=t then some (if ok then .tup [v,.bool true]else v)else(if ok then some (.tup [z,.bool false])else none)
 |_=>none
def fT:PV→PV→Option PV
 |.str s,.int _ j=>if 0≤j then(match s[j.toNat]? with|some b=>some (.int .u8 b.toNat)|none=>none)else none
 |_,_=>none
def fU(len n:Nat)(ag:Bool):PV→PV→Option PV
 |.agg cs,.int _ j=>if 0≤j∧j<len then ae ag n (cs.drop (j.toNat*n))else none
 |_,_=>none
def ju(lo hi:Option PV):PV→Option PV
 |.str s=>match dP s.length s.length lo hi with
  |some (l,h)=>some (.str ((s.take h).drop l))
  |none=>none
 |_=>none
def eQ(sz:Nat)(lo hi:Option PV):PV→Option PV
 |.nils=>match dP 0 0 lo hi with|some _=>some .nils|none=>none
 |.sl tip es sp=>if !gG sz (es++sp)then none else match dP es.length (es.length+sp.length) lo hi with
  |some (l,h)=>some (.sl (if h=es.length then tip else none) (((es++sp).take h).drop l) ((es++sp).drop h))
  |none=>none
 |.osl id off len sz'=>if sz'=sz∧0<sz then(match dP len len lo hi with
  |some (l,h)=>if l=0∨l<h then some (.osl id (off+l*sz) (h-l) sz)else none
  |none=>none)else none
 |.emp=>match dP 0 0 lo hi with|some _=>some .emp|none=>none
 |_=>none
def Fi(len sz:Nat)(lo hi:Option PV):PV→Option PV
 |.ptr id off=>match dP len len lo hi with
  |some (l,h)=>if l<h then some (.osl id (off+l*sz) (h-l) 0)else none
  |none=>none
 |.ref cs=>if sz=1∧cs.length=len∧cs.all PV.one=true then(match dP len len lo hi with
  |some (l,h)=>if l<h then some (.sl none ((cs.take h).drop l) (cs.drop h))else none
  |none=>none)else none
 |_=>none
def jU(off:Nat):PV→Option PV
 |.ptr id o=>some (.ptr id (o+off))
 |.ref cs=>if off≤cs.length then some (.ref (cs.drop off))else none
 |_=>none
def dQ(sz:Nat):PV→PV→Option PV
 |.sl _ es _,.int _ j=>if 0≤j then(match es[j.toNat]? with|some e=>if e.cells.length=sz then some (.ref e.cells)else none|none=>none)else none
 |.osl id off n _,.int _ j=>if 0≤j∧j<n then some (.ptr id (off+j.toNat*sz))else none
 |_,_=>none
def fI(len sz:Nat):PV→PV→Option PV
 |.ptr id off,.int _ j=>if 0≤j∧j<len then some (.ptr id (off+j.toNat*sz))else none
 |.ref cs,.int _ j=>if 0≤j∧j<len∧j.toNat*sz≤cs.length then some (.ref (cs.drop (j.toNat*sz)))else none
 |_,_=>none
def cz(st:Bool):PV→Option PV
 |.str s=>if st then some (.int .i64 s.length)else none
 |.nils=>if st then none else some (.int .i64 0)
 |.sl _ es _=>if st then none else some (.int .i64 es.length)
 |.osl _ _ n _=>if st then none else some (.int .i64 n)
 |.emp=>if st then none else some (.int .i64 0)
 |_=>none
def ed(mx:Bool):PV→PV→Option PV
 |.int k a,.int l b=>if k=l then some (.int k (if mx then(if b>a then b else a)else(if b<a then b else a)))else none
 |_,_=>none
@[simp]def aRW{i o:Nat}:iX (.ptr i o)=some (.ptr i o):=rfl
@[simp]def aRX{cs:List PV}:iX (.ref cs)=some (.ref cs):=rfl
@[simp]def aRY{t:Nat}{v:PV}:iX (.iface t v)=some (.iface t v):=rfl
@[simp]def aRZ{f:Nat}{cs:List PV}:iX (.fn f cs)=some (.fn f cs):=rfl
def Fj(neg:Bool)(n:Nat):PV→PV→Option PV
 |.agg a,.agg b=>if a.length=n∧b.length=n then(match dy false a b with|some r=>some (iC neg r)|none=>none)else none
 |_,_=>none
@[simp]def aR0{neg:Bool}{n:Nat}{a b:List PV}:Fj neg n (.agg a) (.agg b)=if a.length=n∧b.length=n then(match dy false a b with|some r=>some (iC neg r)|none=>none)else none:=rfl
@[simp]def aR1{neg isb:Bool}{n:Nat}{a b:List PV}:fS neg isb n (.agg a) (.agg b)=if a.length=n∧b.length=n then(match dy isb a b with|some r=>some (iC neg r)|none=>none)else none:=rfl
@[simp]def aR2{k l:IntKind}{n:Int}:jq k (.int l n)=some (.int k (k.wrap n)):=rfl
@[simp]def aR3{s:List UInt8}:jr (.str s)=some (.str s):=rfl
@[simp]def aR4{ag:Bool}{off n:Nat}{cs:List PV}:js ag off n (.agg cs)=ae ag n (cs.drop off):=rfl
@[simp]def aR5{i:Nat}{vs:List PV}:jt i (.tup vs)=vs[i]?:=rfl
@[simp]def aR6{t:Nat}{ok:Bool}{z:PV}:jT t ok z .nili=if ok then some (.tup [z,.bool false])else none:=rfl
@[simp]def aR7{t u:Nat}{ok:Bool}{z v:PV}:jT t ok z (.iface u v)=if u=t then some (if ok then .tup [v,.bool true]else v)else(if ok then some (.tup [z,.bool false])else none):=rfl
@[simp]def aR8{s:List UInt8}{k:IntKind}{j:Int}:fT (.str s) (.int k j)=if 0≤j then(match s[j.toNat]? with|some b=>some (.int .u8 b.toNat)|none=>none)else none:=rfl
@[simp]def aR9{len n:Nat}{ag:Bool}{cs:List PV}{k:IntKind}{j:Int}:fU len n ag (.agg cs) (.int k j)=if 0≤j∧j<len then ae ag n (cs.drop (j.toNat*n))else none:=rfl
@[simp]def aSa{lo hi:Option PV}{s:List UInt8}:ju lo hi (.str s)=match dP s.length s.length lo hi with|some (l,h)=>some (.str ((s.take h).drop l))|none=>none:=rfl
@[simp]def vn{sz:Nat}{lo hi:Option PV}:eQ sz lo hi .nils=match dP 0 0 lo hi with|some _=>some .nils|none=>none:=rfl
@[simp]def sX{sz:Nat}{lo hi:Option PV}{tip:Option (Nat×Nat)}{es sp:List PV}:eQ sz lo hi (.sl tip es sp)=if !gG sz (es++sp)then none else match dP es.length (es.length+sp.length) lo hi with
   |some (l,h)=>some (.sl (if h=es.length then tip else none) (((es++sp).take h).drop l) ((es++sp).drop h))
   |none=>none:=rfl
@[simp]def aSb{len sz:Nat}{lo hi:Option PV}{id off:Nat}:Fi len sz lo hi (.ptr id off)=match dP len len lo hi with|some (l,h)=>if l<h then some (.osl id (off+l*sz) (h-l) 0)else none|none=>none:=rfl
@[simp]def aSc{sz:Nat}{lo hi:Option PV}{id off len:Nat}:eQ sz lo hi (.osl id off len sz)=if 0<sz then(match dP len len lo hi with
  |some (l,h)=>if l=0∨l<h then some (.osl id (off+l*sz) (h-l) sz)else none
  |none=>none)else none:=by simp[eQ]
@[simp]def aSd{sz:Nat}{lo hi:Option PV}:eQ sz lo hi .emp=match dP 0 0 lo hi with|some _=>some .emp|none=>none:=rfl
def vo:PV→Option PV
 |.nils=>some .nils
 |.sl ..=>some .emp
 |.osl ..=>some .emp
 |.emp=>some .emp
 |_=>none
@[simp]def aSe:vo .nils=some .nils:=rfl
@[simp]def aSf{t:Option (Nat×Nat)}{a b:List PV}:vo (.sl t a b)=some .emp:=rfl
@[simp]def aSg{i o n s:Nat}:vo (.osl i o n s)=some .emp:=rfl
@[simp]def aSh:vo .emp=some .emp:=rfl
@[simp]def aSi{off id o:Nat}:jU off (.ptr id o)=some (.ptr id (o+off)):=rfl
@[simp]def aSj{off:Nat}{cs:List PV}:jU off (.ref cs)=if off≤cs.length then some (.ref (cs.drop off))else none:=rfl
@[simp]def aSk{sz:Nat}{tip:Option (Nat×Nat)}{es sp:List PV}{k:IntKind}{j:Int}:dQ sz (.sl tip es sp) (.int k j)=if 0≤j then(match es[j.toNat]? with|some e=>if e.cells.length=sz then some (.ref e.cells)else none|none=>none)else none:=rfl
@[simp]def aSl{sz id off n s:Nat}{k:IntKind}{j:Int}:dQ sz (.osl id off n s) (.int k j)=if 0≤j∧j<n then some (.ptr id (off+j.toNat*sz))else none:=rfl
@[simp]def aSm{len sz id off:Nat}{k:IntKind}{j:Int}:fI len sz (.ptr id off) (.int k j)=if 0≤j∧j<len then some (.ptr id (off+j.toNat*sz))else none:=rfl
@[simp]def aSn{len sz:Nat}{cs:List PV}{k:IntKind}{j:Int}:fI len sz (.ref cs) (.int k j)=if 0≤j∧j<len∧j.toNat*sz≤cs.length then some (.ref (cs.drop (j.toNat*sz)))else none:=rfl
@[simp]def aSo{s:List UInt8}:cz true (.str s)=some (.int .i64 s.length):=rfl
@[simp]def aSp:cz false .nils=some (.int .i64 0):=rfl
@[simp]def aSq{tip:Option (Nat×Nat)}{es sp:List PV}:cz false (.sl tip es sp)=some (.int .i64 es.length):=rfl
@[simp]def aSr{id off n s:Nat}:cz false (.osl id off n s)=some (.int .i64 n):=rfl
@[simp]def aSs:cz false .emp=some (.int .i64 0):=rfl
@[simp]def aSt{mx:Bool}{k:IntKind}{a b:Int}:ed mx (.int k a) (.int k b)=some (.int k (if mx then(if b>a then b else a)else(if b<a then b else a))):=by simp[ed]
def ZU(fr:Fr)(st:Bool)(x:aM):aQ fr (.len st x)=cz st (ev fr x):=by
 cases st<;>simp only[aQ]<;>cases ev fr x<;>rfl
section
variable {T : bH} {K : List Kt} {fr : Fr} {S : St} {d : Option Nat} {l : List aF}
def ZV{op:cK}:aJ T (.ops (⟨d,op,none⟩::l)::K) fr S=ob (cO T fr S op) fun x=>aJ T (.ops l::K) (aw fr d x.1) x.2:=by
 rw[Vw];cases cO T fr S op<;>rfl
def dt{op:cK}{q:Option PV}(h:cO T fr S op=fm S q):aJ T (.ops (⟨d,op,none⟩::l)::K) fr S=ob q fun v=>aJ T (.ops l::K) (aw fr d v) S:=by
 rw[ZV,h];cases q<;>rfl
@[simp]def aSu {x:aM}:aJ T (.ops (⟨d,.mov x,none⟩::l)::K) fr S=aJ T (.ops l::K) (aw fr d (ev fr x)) S:=dt (q:=some (ev fr x)) rfl
@[simp]def aSv {t:Nat} {x:aM}:aJ T (.ops (⟨d,.mkif t x,none⟩::l)::K) fr S=aJ T (.ops l::K) (aw fr d (.iface t (ev fr x))) S:=dt (q:=some (.iface t (ev fr x))) rfl
@[simp]def aSw {f:Nat} {caps:List aM}:aJ T (.ops (⟨d,.mkfn f caps,none⟩::l)::K) fr S=aJ T (.ops l::K) (aw fr d (.fn f (caps.map (ev fr)))) S:=dt (q:=some (.fn f (caps.map (ev fr)))) rfl
def ci(c a b:PV):Option PV:=match c with|.bool true=>some a|.bool false=>some b|_=>none
@[simp]def aSx{c a b:aM}:aJ T (.ops (⟨d,.pick c a b,none⟩::l)::K) fr S=ob (ci (ev fr c) (ev fr a) (ev fr b)) fun v=>aJ T (.ops l::K) (aw fr d v) S:=dt rfl
@[simp]def aSy{o:BinOp}{x y:aM}:aJ T (.ops (⟨d,.arith o x y,none⟩::l)::K) fr S=ob (arith o (ev fr x) (ev fr y)) fun v=>aJ T (.ops l::K) (aw fr d v) S:=dt rfl
@[simp]def aSz{o:UnOp}{x:aM}:aJ T (.ops (⟨d,.un o x,none⟩::l)::K) fr S=ob (unOp o (ev fr x)) fun v=>aJ T (.ops l::K) (aw fr d v) S:=dt rfl
def fV(neg:Bool)(a b:PV):Option PV:=match a,b with|.bool a,.bool b=>some (iC neg (a==b))|_,_=>none
@[simp]def aSA{neg a b:Bool}:fV neg (.bool a) (.bool b)=some (iC neg (a==b)):=rfl
@[simp]def aSB{neg:Bool}{x y:aM}:aJ T (.ops (⟨d,.eqb neg x y,none⟩::l)::K) fr S=ob (fV neg (ev fr x) (ev fr y)) fun v=>aJ T (.ops l::K) (aw fr d v) S:=dt rfl
@[simp]def aSC{b:Bool}:iC false b=.bool b:=rfl
@[simp]def aSD{b:Bool}:iC true b=.bool !b:=rfl
def eg(neg:Bool)(k:NK)(a:PV):Option PV:=match jE k a with|some b=>some (iC neg b)|none=>none
@[simp]def aSE{neg:Bool}{k:NK}{x:aM}:aJ T (.ops (⟨d,.eqn neg k x,none⟩::l)::K) fr S=ob (eg neg k (ev fr x)) fun v=>aJ T (.ops l::K) (aw fr d v) S:=dt rfl
def Fk{op:cK}(h:cO T fr S op=fm S (aQ fr op)):aJ T (.ops (⟨d,op,none⟩::l)::K) fr S=ob (aQ fr op) fun v=>aJ T (.ops l::K) (aw fr d v) S:=dt h
def iu:PV→Option PV
 |.nils=>some (.str [])
 |.emp=>some (.str [])
 |.sl _ es _=>match lL es with|some s=>some (.str s)|none=>none
 |_=>none
@[simp]def aSF{x:aM}:aJ T (.ops (⟨d,.nilck x,none⟩::l)::K) fr S=ob (iX (ev fr x)) fun v=>aJ T (.ops l::K) (aw fr d v) S:=dt (by simp only[cO,aI,aQ];rfl)
@[simp]def aSG{neg isb:Bool}{n:Nat}{x y:aM}:aJ T (.ops (⟨d,.eqa neg isb n x y,none⟩::l)::K) fr S=ob (fS neg isb n (ev fr x) (ev fr y)) fun v=>aJ T (.ops l::K) (aw fr d v) S:=dt (by simp only[cO,aI,aQ];rfl)
@[simp]def aSH{neg:Bool}{n:Nat}{x y:aM}:aJ T (.ops (⟨d,.eqs neg n x y,none⟩::l)::K) fr S=ob (Fj neg n (ev fr x) (ev fr y)) fun v=>aJ T (.ops l::K) (aw fr d v) S:=dt (by simp only[cO,aI,aQ];rfl)
@[simp]def aSI{k:IntKind}{x:aM}:aJ T (.ops (⟨d,.toInt k x,none⟩::l)::K) fr S=ob (jq k (ev fr x)) fun v=>aJ T (.ops l::K) (aw fr d v) S:=dt (by simp only[cO,aI,aQ];rfl)
@[simp]def aSJ{x:aM}:aJ T (.ops (⟨d,.strId x,none⟩::l)::K) fr S=ob (jr (ev fr x)) fun v=>aJ T (.ops l::K) (aw fr d v) S:=dt (by simp only[cO,aI,aQ];rfl)
@[simp]def aSK{x:aM}:aJ T (.ops (⟨d,.toStr x,none⟩::l)::K) fr S=ob (iu (ev fr x)) fun v=>aJ T (.ops l::K) (aw fr d v) S:=Fk rfl
@[simp]def aSL{ag:Bool}{off n:Nat}{x:aM}:aJ T (.ops (⟨d,.field ag off n x,none⟩::l)::K) fr S=ob (js ag off n (ev fr x)) fun v=>aJ T (.ops l::K) (aw fr d v) S:=dt (by simp only[cO,aI,aQ];rfl)
@[simp]def aSM{z:List PV}{ps:List (Nat×Nat×aM)}:aJ T (.ops (⟨d,.build z ps,none⟩::l)::K) fr S=ob (aQ fr (.build z ps)) fun v=>aJ T (.ops l::K) (aw fr d v) S:=Fk rfl
@[simp]def aSN{i:Nat}{x:aM}:aJ T (.ops (⟨d,.extract i x,none⟩::l)::K) fr S=ob (jt i (ev fr x)) fun v=>aJ T (.ops l::K) (aw fr d v) S:=dt (by simp only[cO,aI,aQ];rfl)
@[simp]def aSO{t:Nat}{ok:Bool}{z:PV}{x:aM}:aJ T (.ops (⟨d,.assert t ok z x,none⟩::l)::K) fr S=ob (jT t ok z (ev fr x)) fun v=>aJ T (.ops l::K) (aw fr d v) S:=dt (by simp only[cO,aI,aQ];rfl)
@[simp]def aSP{x i:aM}:aJ T (.ops (⟨d,.idxs x i,none⟩::l)::K) fr S=ob (fT (ev fr x) (ev fr i)) fun v=>aJ T (.ops l::K) (aw fr d v) S:=dt (by simp only[cO,aI,aQ];rfl)
@[simp]def aSQ{len n:Nat}{ag:Bool}{x i:aM}:aJ T (.ops (⟨d,.idxa len n ag x i,none⟩::l)::K) fr S=ob (fU len n ag (ev fr x) (ev fr i)) fun v=>aJ T (.ops l::K) (aw fr d v) S:=dt (by simp only[cO,aI,aQ];rfl)
@[simp]def aSR{lo hi:Option aM}{x:aM}:aJ T (.ops (⟨d,.slcs lo hi x,none⟩::l)::K) fr S=ob (ju (cW fr lo) (cW fr hi) (ev fr x)) fun v=>aJ T (.ops l::K) (aw fr d v) S:=dt (by simp only[cO,aI,aQ];rfl)
@[simp]def aSS{sz:Nat}{lo hi:Option aM}{x:aM}:aJ T (.ops (⟨d,.slc sz lo hi x,none⟩::l)::K) fr S=ob (eQ sz (cW fr lo) (cW fr hi) (ev fr x)) fun v=>aJ T (.ops l::K) (aw fr d v) S:=dt (by simp only[cO,aI,aQ];rfl)
@[simp]def aST{len sz:Nat}{lo hi:Option aM}{x:aM}:aJ T (.ops (⟨d,.slca len sz lo hi x,none⟩::l)::K) fr S=ob (Fi len sz (cW fr lo) (cW fr hi) (ev fr x)) fun v=>aJ T (.ops l::K) (aw fr d v) S:=dt (by simp only[cO,aI,aQ];rfl)
@[simp]def aSU{off:Nat}{x:aM}:aJ T (.ops (⟨d,.faddr off x,none⟩::l)::K) fr S=ob (jU off (ev fr x)) fun v=>aJ T (.ops l::K) (aw fr d v) S:=dt (by simp only[cO,aI,aQ];rfl)
@[simp]def aSV{x:aM}:aJ T (.ops (⟨d,.emp3 x,none⟩::l)::K) fr S=ob (vo (ev fr x)) fun v=>aJ T (.ops l::K) (aw fr d v) S:=dt (by simp only[cO,aI,aQ];cases ev fr x<;>rfl)
@[simp]def aSW{sz:Nat}{x i:aM}:aJ T (.ops (⟨d,.iaddr sz x i,none⟩::l)::K) fr S=ob (dQ sz (ev fr x) (ev fr i)) fun v=>aJ T (.ops l::K) (aw fr d v) S:=dt (by simp only[cO,aI,aQ];rfl)
@[simp]def aSX{len sz:Nat}{x i:aM}:aJ T (.ops (⟨d,.iaddra len sz x i,none⟩::l)::K) fr S=ob (fI len sz (ev fr x) (ev fr i)) fun v=>aJ T (.ops l::K) (aw fr d v) S:=dt (by simp only[cO,aI,aQ];rfl)
@[simp]def aSY {st:Bool} {x:aM}:aJ T (.ops (⟨d,.len st x,none⟩::l)::K) fr S=ob (cz st (ev fr x)) fun v=>aJ T (.ops l::K) (aw fr d v) S:=dt (by have h:cO T fr S (.len st x)=fm S (aQ fr (.len st x)):=by {cases st<;>rfl};rw[h,ZU])
@[simp]def aSZ{mx:Bool}{x y:aM}:aJ T (.ops (⟨d,.mnmx mx x y,none⟩::l)::K) fr S=ob (ed mx (ev fr x) (ev fr y)) fun v=>aJ T (.ops l::K) (aw fr d v) S:=dt (by simp only[cO,aI,aQ];rfl)
def cS(S:St)(ag:Bool)(n:Nat):PV→Option PV
 |.ref cs=>ae ag n cs
 |.ptr id off=>match S.objs[id]? with|some cs=>ae ag n (cs.drop off)|none=>none
 |_=>none
@[simp]def aS0{ag:Bool}{n:Nat}{mix:Bool}{x:aM}:aJ T (.ops (⟨d,.load ag n mix x,none⟩::l)::K) fr S=ob (if mix then(match ev fr x with|.ref cs=>ae ag n cs|_=>none)else cS S ag n (ev fr x)) fun v=>aJ T (.ops l::K) (aw fr d v) S:=by
 cases mix
 ·refine dt ?_;simp only[cO,aI,cF,if_false];cases ev fr x<;>simp only[cS]<;>try rfl
  case ptr id off=>
   cases h:S.objs[id]? with
   |none=>rfl
   |some cs=>cases h2:ae ag n (cs.drop off)<;>simp[h2,fm]
 ·exact Fk rfl
def Fm(S:St)(ag:Bool)(n:Nat):PV→PV→Option PV
 |.ptr i _,.ptr id off=>if i=id then cS S ag n (.ptr id off)else none
 |_,_=>none
@[simp]def aS1{S:St}{ag:Bool}{n i o off:Nat}:Fm S ag n (.ptr i o) (.ptr i off)=cS S ag n (.ptr i off):=if_pos rfl
@[simp]def aS2{b:Nat}{ag:Bool}{n:Nat}{x:aM}:aJ T (.ops (⟨d,.loadb b ag n x,none⟩::l)::K) fr S=ob (Fm S ag n (fr b) (ev fr x)) fun v=>aJ T (.ops l::K) (aw fr d v) S:=by
 refine dt ?_;simp only[cO,aI];cases fr b<;>cases ev fr x<;>simp only[Fm]<;>try rfl
 rename_i i o id off;by_cases hi:i=id
 ·subst hi;simp only[if_true,cS]
  cases h:S.objs[i]? with
  |none=>rfl
  |some cs=>cases h2:ae ag n (cs.drop off)<;>simp[h2,fm]
 ·simp only[if_neg hi];rfl
def Fn{i:Nat}{S S':St}{v:PV}{a:List PV}(h:S.objs[i]?=some a)(h':S'.objs[i]?=some a):mU i S (some (v,S'))=some (v,S'):=by
 simp only[mU,h,h',kU,if_true]
def fW{op:cK}{q:Option (PV×St)}(h:cO T fr S op=q):aJ T (.ops (⟨d,op,none⟩::l)::K) fr S=ob q fun x=>aJ T (.ops l::K) (aw fr d x.1) x.2:=by rw[ZV,h]
@[simp]def aS3{n:Nat}{a v:aM}:aJ T (.ops (⟨d,.store n a v,none⟩::l)::K) fr S=ob (aI T (aO T) fr S (.store n a v)) fun x=>aJ T (.ops l::K) (aw fr d x.1) x.2:=fW rfl
@[simp]def aS4{q:List Nat}{n:Nat}{a v:aM}:aJ T (.ops (⟨d,.stb q n a v,none⟩::l)::K) fr S=ob (aI T (aO T) fr S (.stb q n a v)) fun x=>aJ T (.ops l::K) (aw fr d x.1) x.2:=fW rfl
@[simp]def aS5{ro:Bool}{x:aM}:aJ T (.ops (⟨d,.box ro x,none⟩::l)::K) fr S=ob (aI T (aO T) fr S (.box ro x)) fun x=>aJ T (.ops l::K) (aw fr d x.1) x.2:=fW rfl
@[simp]def aS6{ro:Bool}{z:List PV}:aJ T (.ops (⟨d,.alloc ro z,none⟩::l)::K) fr S=ob (aI T (aO T) fr S (.alloc ro z)) fun x=>aJ T (.ops l::K) (aw fr d x.1) x.2:=fW rfl
@[simp]def aS7{ro:Bool}{ze:PV}{n:Nat}{ps:List (Nat×aM)}:aJ T (.ops (⟨d,.bsl ro ze n ps,none⟩::l)::K) fr S=ob (aI T (aO T) fr S (.bsl ro ze n ps)) fun x=>aJ T (.ops l::K) (aw fr d x.1) x.2:=fW rfl
@[simp]def aS8{ro:Bool}{x:aM}:aJ T (.ops (⟨d,.toBytes ro x,none⟩::l)::K) fr S=ob (aI T (aO T) fr S (.toBytes ro x)) fun x=>aJ T (.ops l::K) (aw fr d x.1) x.2:=fW rfl
@[simp]def aS9{sz b:Nat}{c:aM}:aJ T (.ops (⟨d,.mks sz b c,none⟩::l)::K) fr S=ob (aI T (aO T) fr S (.mks sz b c)) fun x=>aJ T (.ops l::K) (aw fr d x.1) x.2:=fW rfl
def sY(sz bytes:Nat)(S:St)(s x:PV):Option (PV×St):=ob (eF S sz x) fun new=>if 0<sz then fL sz bytes S s new else none
@[simp]def aTa{S:St}{sz:Nat}:eF S sz .nils=some []:=rfl
@[simp]def aTb{S:St}{sz:Nat}:eF S sz .emp=some []:=rfl
@[simp]def aMz{S:St}{sz:Nat}{tip:Option (Nat×Nat)}{es sp:List PV}:eF S sz (.sl tip es sp)=if gG sz es then some es else none:=rfl
@[simp]def aTc{S:St}{sz:Nat}{s:List UInt8}:eF S sz (.str s)=if sz=1 then some (aL s)else none:=rfl
def Fo(sz bytes:Nat)(S:St)(s x:PV):Option (PV×St):=ob (eF S sz x) fun new=>if 0<sz then nY sz bytes S s new else none
@[simp]def aTd{sz:Nat}:gI sz .nils=some []:=rfl
@[simp]def aMA{sz:Nat}{tip:Option (Nat×Nat)}{es sp:List PV}:gI sz (.sl tip es sp)=if gG sz es then some es else none:=rfl
@[simp]def aTe{sz:Nat}{s:List UInt8}:gI sz (.str s)=if sz=1 then some (aL s)else none:=rfl
@[simp]def aTf{sz:Nat}:gG sz []=true:=rfl
@[simp]def aTg{sz:Nat}{e:PV}{l:List PV}:gG sz (e::l)=(e.cells.length==sz):=rfl
@[simp]def aTh{sz bytes:Nat}{S:St}{s x:PV}:sY sz bytes S s x=ob (eF S sz x) fun new=>if 0<sz then fL sz bytes S s new else none:=rfl
@[simp]def aTi{sz bytes:Nat}{S:St}{s x:PV}:Fo sz bytes S s x=ob (eF S sz x) fun new=>if 0<sz then nY sz bytes S s new else none:=rfl
@[simp]def aTj:aJ T (.ops (⟨d,.mkm,none⟩::l)::K) fr S=ob (aI T (aO T) fr S .mkm) fun x=>aJ T (.ops l::K) (aw fr d x.1) x.2:=fW rfl
@[simp]def aTk{ks:Bool}{ok:Bool}{z:PV}{x k:aM}:aJ T (.ops (⟨d,.mlk ks ok z x k,none⟩::l)::K) fr S=ob (aI T (aO T) fr S (.mlk ks ok z x k)) fun x=>aJ T (.ops l::K) (aw fr d x.1) x.2:=fW rfl
@[simp]def aTl{x:aM}:aJ T (.ops (⟨d,.mlen x,none⟩::l)::K) fr S=ob (aI T (aO T) fr S (.mlen x)) fun x=>aJ T (.ops l::K) (aw fr d x.1) x.2:=fW rfl
@[simp]def aTm{ks:Bool}{x k v:aM}:aJ T (.ops (⟨d,.mset ks x k v,none⟩::l)::K) fr S=ob (aI T (aO T) fr S (.mset ks x k v)) fun x=>aJ T (.ops l::K) (aw fr d x.1) x.2:=fW rfl
@[simp]def aTn{ks:Bool}{x k:aM}:aJ T (.ops (⟨d,.mdel ks x k,none⟩::l)::K) fr S=ob (aI T (aO T) fr S (.mdel ks x k)) fun x=>aJ T (.ops l::K) (aw fr d x.1) x.2:=fW rfl
@[simp]def aTo{sz:Nat}{lo:Option aM}{hi mx x:aM}:aJ T (.ops (⟨d,.slc3 sz lo hi mx x,none⟩::l)::K) fr S=ob (aI T (aO T) fr S (.slc3 sz lo hi mx x)) fun x=>aJ T (.ops l::K) (aw fr d x.1) x.2:=fW rfl
@[simp]def aTp{f:Nat}{xs:List aM}:aJ T (.ops (⟨d,.mkbfn f xs,none⟩::l)::K) fr S=ob (aI T (aO T) fr S (.mkbfn f xs)) fun x=>aJ T (.ops l::K) (aw fr d x.1) x.2:=fW rfl
@[simp]def aTq{sz b:Nat}{s x:aM}:aJ T (.ops (⟨d,.app sz b s x,none⟩::l)::K) fr S=ob (sY sz b S (ev fr s) (ev fr x)) fun x=>aJ T (.ops l::K) (aw fr d x.1) x.2:=by
 refine fW ?_;simp only[cO,aI,sY];cases eF S sz (ev fr x)<;>rfl
@[simp]def aTr{sz b:Nat}{s x:aM}:aJ T (.ops (⟨d,.gapp sz b s x,none⟩::l)::K) fr S=ob (Fo sz b S (ev fr s) (ev fr x)) fun x=>aJ T (.ops l::K) (aw fr d x.1) x.2:=by
 refine fW ?_;simp only[cO,aI,Fo];cases eF S sz (ev fr x)<;>rfl
@[simp]def aTs{x:aM}:aJ T (.ops (⟨d,.toStrO x,none⟩::l)::K) fr S=ob (aI T (aO T) fr S (.toStrO x)) fun x=>aJ T (.ops l::K) (aw fr d x.1) x.2:=fW rfl
@[simp]def aTt:aJ T (.ops (⟨d,.emp0,none⟩::l)::K) fr S=aJ T (.ops l::K) (aw fr d .emp) S:=fW rfl
@[simp]def aTu{sz:Nat}{z:List PV}{x:aM}:aJ T (.ops (⟨d,.gclr sz z x,none⟩::l)::K) fr S=ob (aI T (aO T) fr S (.gclr sz z x)) fun x=>aJ T (.ops l::K) (aw fr d x.1) x.2:=fW rfl
noncomputable def ZW (T:bH)(f:Nat)(args:List PV)(S:St):PV→Option (PV×St)
 |.ptr i _=>mU i S (aO T f args S)
 |_=>none
@[simp]def aTv{f:Nat}{args:List PV}{S:St}{i o:Nat}:ZW T f args S (.ptr i o)=mU i S (aO T f args S):=rfl
@[simp]def aTw{b f:Nat}{xs:List aM}:aJ T (.ops (⟨d,.callb b f xs,none⟩::l)::K) fr S=ob (ZW T f (xs.map (ev fr)) S (fr b)) fun x=>aJ T (.ops l::K) (aw fr d x.1) x.2:=fW rfl
@[simp]def aTx{m:CM}{f:Nat}{xs:List aM}:aJ T (.ops (⟨d,.call m f xs,none⟩::l)::K) fr S=ob (cd (aO T) m f (xs.map (ev fr)) S) fun x=>aJ T (.ops l::K) (aw fr d x.1) x.2:=fW rfl
noncomputable def qK (T:bH)(m:CM)(x:PV)(args:List PV)(S:St):Option (PV×St):=match x with|.fn f caps=>cd (aO T) m f (args++caps) S|.bfn f first=>cd (aO T) m f (first++args) S|_=>none
@[simp]def AQ{T:bH}{m:CM}{f:Nat}{first args:List PV}{S:St}:qK T m (.bfn f first) args S=cd (aO T) m f (first++args) S:=rfl
@[simp]def qL{m:CM}{f:Nat}{caps args:List PV}:qK T m (.fn f caps) args S=cd (aO T) m f (args++caps) S:=rfl
@[simp]def aTy{m:CM}{x:aM}{xs:List aM}:aJ T (.ops (⟨d,.callv m x xs,none⟩::l)::K) fr S=ob (qK T m (ev fr x) (xs.map (ev fr)) S) fun x=>aJ T (.ops l::K) (aw fr d x.1) x.2:=fW rfl
noncomputable def aMB (T:bH)(cm:CM)(m:Nat)(x:PV)(args:List PV)(S:St):Option (PV×St):=match x with|.iface t v=>(match T.meth t m with|some f=>cd (aO T) cm f (v::args) S|none=>none)|_=>none
@[simp]def aTz{cm:CM}{m:Nat}{x:aM}{xs:List aM}:aJ T (.ops (⟨d,.inv cm m x xs,none⟩::l)::K) fr S=ob (aMB T cm m (ev fr x) (xs.map (ev fr)) S) fun x=>aJ T (.ops l::K) (aw fr d x.1) x.2:=fW rfl
end
attribute [simp] Vx
def nt(c:Bool):Bool:=!c
def an(c d:Bool):Bool:=c&&d
@[simp]def aMC:nt true=false:=rfl
@[simp]def aMD:nt false=true:=rfl
@[simp]def aTA(d:Bool):an true d=d:=rfl
@[simp]def aTB(d:Bool):an false d=false:=rfl
@[simp]def aTC(d:Bool):an d true=d:=by cases d<;>rfl
@[simp]def aTD(d:Bool):an d false=false:=by cases d<;>rfl
def aK(c:Bool)(x:Option PV):Option PV:=if c=true then x else some (.tup [])
def gd(c:Bool)(v:PV):PV:=if c=true then v else .tup []
@[simp]def aME(c:Bool)(v:PV):aK c (some v)=some (gd c v):=by cases c<;>rfl
@[simp]def aMF(x:Option PV):aK true x=x:=rfl
@[simp]def aMG(x:Option PV):aK false x=some (.tup []):=rfl
@[simp]def aTE(v:PV):gd true v=v:=rfl
@[simp]def aTF(v:PV):gd false v=.tup []:=rfl
@[congr]def aTG{c c':Bool}{v:PV}(h:c=c'):gd c v=gd c' v:=by rw[h]
def dI(v:PV)(b:Bool)(x:Option PV):Option PV:=match v with|.bool c=>aK (if b then c else !c) x|.tup []=>some (.tup [])|_=>none
@[congr]def aTH{v v':PV}{b:Bool}{x:Option PV}(h:v=v'):dI v b x=dI v' b x:=by rw[h]
@[simp]def aMH(c:Bool)(x:Option PV):dI (.bool c) true x=aK c x:=rfl
@[simp]def aMI(c:Bool)(x:Option PV):dI (.bool c) false x=aK (nt c) x:=rfl
@[simp]def aTI(b:Bool)(x:Option PV):dI (.tup []) b x=some (.tup []):=rfl
@[simp]def aTJ(c d:Bool)(x:Option PV):dI (gd c (.bool d)) true x=aK (an c d) x:=by cases c<;>cases d<;>rfl
@[simp]def aTK(c d:Bool)(x:Option PV):dI (gd c (.bool d)) false x=aK (an c (nt d)) x:=by cases c<;>cases d<;>rfl
@[simp]def aTL(c d:Bool):ci (.bool c) (.bool d) (.bool false)=some (.bool (c&&d)):=by cases c<;>rfl
@[simp]def aTM(c d:Bool):ci (.bool c) (.bool true) (.bool d)=some (.bool (c||d)):=by cases c<;>rfl
@[simp]def aTN(a b:PV):ci (.bool true) a b=some a:=rfl
@[simp]def aTO(a b:PV):ci (.bool false) a b=some b:=rfl
noncomputable def iY (T:bH)(f:Nat)(args:List PV):Option PV:=if PV.freeL args then eu T f (PV.frzL args)else none
def qM{T:bH}{f:Nat}{args:List PV}(h:PV.freeL args=true):iY T f args=eu T f (PV.frzL args):=if_pos h
@[simp]def aTP{T:bH}{f:Nat}:iY T f []=eu T f []:=by rw[qM (by simp)];simp
@[simp]def aTQ{T:bH}{f:Nat}{a:PV}(h:a.free=true):iY T f [a]=eu T f [a.frz]:=by rw[qM (by simp[h])];simp
@[simp]def aTR{T:bH}{f:Nat}{a b:PV}(h:a.free=true)(h2:b.free=true):iY T f [a,b]=eu T f [a.frz,b.frz]:=by rw[qM (by simp[h,h2])];simp
@[simp]def aTS{T:bH}{f:Nat}{a b c:PV}(h:a.free=true)(h2:b.free=true)(h3:c.free=true):iY T f [a,b,c]=eu T f [a.frz,b.frz,c.frz]:=by rw[qM (by simp[h,h2,h3])];simp
@[simp]def sg1{c:Bool}{x:PV}{o:UnOp}:aK c (unOp o (gd c x))=aK c (unOp o x):=by cases c<;>rfl
@[simp]def sg2{c d:Bool}{x:PV}{o:UnOp}:aK (an c d) (unOp o (gd c x))=aK (an c d) (unOp o x):=by cases c<;>cases d<;>rfl
@[simp]def sg3{c d:Bool}{x:PV}{o:UnOp}:aK (an c d) (unOp o (gd d x))=aK (an c d) (unOp o x):=by cases c<;>cases d<;>rfl
@[simp]def sg4{c d e:Bool}{x:PV}{o:UnOp}:aK (an (an c d) e) (unOp o (gd c x))=aK (an (an c d) e) (unOp o x):=by cases c<;>cases d<;>cases e<;>rfl
@[simp]def sg5{c d e:Bool}{x:PV}{o:UnOp}:aK (an (an c d) e) (unOp o (gd (an c d) x))=aK (an (an c d) e) (unOp o x):=by cases c<;>cases d<;>cases e<;>rfl
@[simp]def sg6{c:Bool}{x:PV}{neg:Bool}{k:NK}:aK c (eg neg k (gd c x))=aK c (eg neg k x):=by cases c<;>rfl
@[simp]def sg7{c d:Bool}{x:PV}{neg:Bool}{k:NK}:aK (an c d) (eg neg k (gd c x))=aK (an c d) (eg neg k x):=by cases c<;>cases d<;>rfl
@[simp]def sg8{c d:Bool}{x:PV}{neg:Bool}{k:NK}:aK (an c d) (eg neg k (gd d x))=aK (an c d) (eg neg k x):=by cases c<;>cases d<;>rfl
@[simp]def sg9{c d e:Bool}{x:PV}{neg:Bool}{k:NK}:aK (an (an c d) e) (eg neg k (gd c x))=aK (an (an c d) e) (eg neg k x):=by cases c<;>cases d<;>cases e<;>rfl
@[simp]def aT2{c d e:Bool}{x:PV}{neg:Bool}{k:NK}:aK (an (an c d) e) (eg neg k (gd (an c d) x))=aK (an (an c d) e) (eg neg k x):=by cases c<;>cases d<;>cases e<;>rfl
@[simp]def aT3{c:Bool}{x:PV}:aK c (iX (gd c x))=aK c (iX x):=by cases c<;>rfl
@[simp]def aT4{c d:Bool}{x:PV}:aK (an c d) (iX (gd c x))=aK (an c d) (iX x):=by cases c<;>cases d<;>rfl
@[simp]def aT5{c d:Bool}{x:PV}:aK (an c d) (iX (gd d x))=aK (an c d) (iX x):=by cases c<;>cases d<;>rfl
@[simp]def aT6{c d e:Bool}{x:PV}:aK (an (an c d) e) (iX (gd c x))=aK (an (an c d) e) (iX x):=by cases c<;>cases d<;>cases e<;>rfl
@[simp]def aT7{c d e:Bool}{x:PV}:aK (an (an c d) e) (iX (gd (an c d) x))=aK (an (an c d) e) (iX x):=by cases c<;>cases d<;>cases e<;>rfl
@[simp]def aT8{c:Bool}{x:PV}{k:IntKind}:aK c (jq k (gd c x))=aK c (jq k x):=by cases c<;>rfl
@[simp]def aT9{c d:Bool}{x:PV}{k:IntKind}:aK (an c d) (jq k (gd c x))=aK (an c d) (jq k x):=by cases c<;>cases d<;>rfl
@[simp]def aUa{c d:Bool}{x:PV}{k:IntKind}:aK (an c d) (jq k (gd d x))=aK (an c d) (jq k x):=by cases c<;>cases d<;>rfl
@[simp]def aUb{c d e:Bool}{x:PV}{k:IntKind}:aK (an (an c d) e) (jq k (gd c x))=aK (an (an c d) e) (jq k x):=by cases c<;>cases d<;>cases e<;>rfl
@[simp]def aUc{c d e:Bool}{x:PV}{k:IntKind}:aK (an (an c d) e) (jq k (gd (an c d) x))=aK (an (an c d) e) (jq k x):=by cases c<;>cases d<;>cases e<;>rfl
@[simp]def aUd{c:Bool}{x:PV}:aK c (jr (gd c x))=aK c (jr x):=by cases c<;>rfl
@[simp]def aUe{c d:Bool}{x:PV}:aK (an c d) (jr (gd c x))=aK (an c d) (jr x):=by cases c<;>cases d<;>rfl
@[simp]def aUf{c d:Bool}{x:PV}:aK (an c d) (jr (gd d x))=aK (an c d) (jr x):=by cases c<;>cases d<;>rfl
@[simp]def aUg{c d e:Bool}{x:PV}:aK (an (an c d) e) (jr (gd c x))=aK (an (an c d) e) (jr x):=by cases c<;>cases d<;>cases e<;>rfl
@[simp]def aUh{c d e:Bool}{x:PV}:aK (an (an c d) e) (jr (gd (an c d) x))=aK (an (an c d) e) (jr x):=by cases c<;>cases d<;>cases e<;>rfl
@[simp]def aUi{c:Bool}{x:PV}{ag:Bool}{off n:Nat}:aK c (js ag off n (gd c x))=aK c (js ag off n x):=by cases c<;>rfl
@[simp]def aUj{c d:Bool}{x:PV}{ag:Bool}{off n:Nat}:aK (an c d) (js ag off n (gd c x))=aK (an c d) (js ag off n x):=by cases c<;>cases d<;>rfl
@[simp]def aUk{c d:Bool}{x:PV}{ag:Bool}{off n:Nat}:aK (an c d) (js ag off n (gd d x))=aK (an c d) (js ag off n x):=by cases c<;>cases d<;>rfl
@[simp]def aUl{c d e:Bool}{x:PV}{ag:Bool}{off n:Nat}:aK (an (an c d) e) (js ag off n (gd c x))=aK (an (an c d) e) (js ag off n x):=by cases c<;>cases d<;>cases e<;>rfl
@[simp]def aUm{c d e:Bool}{x:PV}{ag:Bool}{off n:Nat}:aK (an (an c d) e) (js ag off n (gd (an c d) x))=aK (an (an c d) e) (js ag off n x):=by cases c<;>cases d<;>cases e<;>rfl
@[simp]def aUn{c:Bool}{x:PV}{i:Nat}:aK c (jt i (gd c x))=aK c (jt i x):=by cases c<;>rfl
@[simp]def aUo{c d:Bool}{x:PV}{i:Nat}:aK (an c d) (jt i (gd c x))=aK (an c d) (jt i x):=by cases c<;>cases d<;>rfl
@[simp]def aUp{c d:Bool}{x:PV}{i:Nat}:aK (an c d) (jt i (gd d x))=aK (an c d) (jt i x):=by cases c<;>cases d<;>rfl
@[simp]def aUq{c d e:Bool}{x:PV}{i:Nat}:aK (an (an c d) e) (jt i (gd c x))=aK (an (an c d) e) (jt i x):=by cases c<;>cases d<;>cases e<;>rfl
@[simp]def aUr{c d e:Bool}{x:PV}{i:Nat}:aK (an (an c d) e) (jt i (gd (an c d) x))=aK (an (an c d) e) (jt i x):=by cases c<;>cases d<;>cases e<;>rfl
@[simp]def aUs{c:Bool}{x:PV}{t:Nat}{ok:Bool}{z:PV}:aK c (jT t ok z (gd c x))=aK c (jT t ok z x):=by cases c<;>rfl
@[simp]def aUt{c d:Bool}{x:PV}{t:Nat}{ok:Bool}{z:PV}:aK (an c d) (jT t ok z (gd c x))=aK (an c d) (jT t ok z x):=by cases c<;>cases d<;>rfl
@[simp]def aUu{c d:Bool}{x:PV}{t:Nat}{ok:Bool}{z:PV}:aK (an c d) (jT t ok z (gd d x))=aK (an c d) (jT t ok z x):=by cases c<;>cases d<;>rfl
@[simp]def aUv{c d e:Bool}{x:PV}{t:Nat}{ok:Bool}{z:PV}:aK (an (an c d) e) (jT t ok z (gd c x))=aK (an (an c d) e) (jT t ok z x):=by cases c<;>cases d<;>cases e<;>rfl
@[simp]def aUw{c d e:Bool}{x:PV}{t:Nat}{ok:Bool}{z:PV}:aK (an (an c d) e) (jT t ok z (gd (an c d) x))=aK (an (an c d) e) (jT t ok z x):=by cases c<;>cases d<;>cases e<;>rfl
@[simp]def aUx{c:Bool}{x:PV}{lo hi:Option PV}:aK c (ju lo hi (gd c x))=aK c (ju lo hi x):=by cases c<;>rfl
@[simp]def aUy{c d:Bool}{x:PV}{lo hi:Option PV}:aK (an c d) (ju lo hi (gd c x))=aK (an c d) (ju lo hi x):=by cases c<;>cases d<;>rfl
@[simp]def aUz{c d:Bool}{x:PV}{lo hi:Option PV}:aK (an c d) (ju lo hi (gd d x))=aK (an c d) (ju lo hi x):=by cases c<;>cases d<;>rfl
@[simp]def aUA{c d e:Bool}{x:PV}{lo hi:Option PV}:aK (an (an c d) e) (ju lo hi (gd c x))=aK (an (an c d) e) (ju lo hi x):=by cases c<;>cases d<;>cases e<;>rfl
@[simp]def aUB{c d e:Bool}{x:PV}{lo hi:Option PV}:aK (an (an c d) e) (ju lo hi (gd (an c d) x))=aK (an (an c d) e) (ju lo hi x):=by cases c<;>cases d<;>cases e<;>rfl
@[simp]def aUC{c:Bool}{x:PV}{sz:Nat}{lo hi:Option PV}:aK c (eQ sz lo hi (gd c x))=aK c (eQ sz lo hi x):=by cases c<;>rfl
@[simp]def aUD{c d:Bool}{x:PV}{sz:Nat}{lo hi:Option PV}:aK (an c d) (eQ sz lo hi (gd c x))=aK (an c d) (eQ sz lo hi x):=by cases c<;>cases d<;>rfl
@[simp]def aUE{c d:Bool}{x:PV}{sz:Nat}{lo hi:Option PV}:aK (an c d) (eQ sz lo hi (gd d x))=aK (an c d) (eQ sz lo hi x):=by cases c<;>cases d<;>rfl
@[simp]def aUF{c d e:Bool}{x:PV}{sz:Nat}{lo hi:Option PV}:aK (an (an c d) e) (eQ sz lo hi (gd c x))=aK (an (an c d) e) (eQ sz lo hi x):=by cases c<;>cases d<;>cases e<;>rfl
@[simp]def aUG{c d e:Bool}{x:PV}{sz:Nat}{lo hi:Option PV}:aK (an (an c d) e) (eQ sz lo hi (gd (an c d) x))=aK (an (an c d) e) (eQ sz lo hi x):=by cases c<;>cases d<;>cases e<;>rfl
@[simp]def aUH{c:Bool}{x:PV}{off:Nat}:aK c (jU off (gd c x))=aK c (jU off x):=by cases c<;>rfl
@[simp]def aUI{c d:Bool}{x:PV}{off:Nat}:aK (an c d) (jU off (gd c x))=aK (an c d) (jU off x):=by cases c<;>cases d<;>rfl
@[simp]def aUJ{c d:Bool}{x:PV}{off:Nat}:aK (an c d) (jU off (gd d x))=aK (an c d) (jU off x):=by cases c<;>cases d<;>rfl
@[simp]def aUK{c d e:Bool}{x:PV}{off:Nat}:aK (an (an c d) e) (jU off (gd c x))=aK (an (an c d) e) (jU off x):=by cases c<;>cases d<;>cases e<;>rfl
@[simp]def aUL{c d e:Bool}{x:PV}{off:Nat}:aK (an (an c d) e) (jU off (gd (an c d) x))=aK (an (an c d) e) (jU off x):=by cases c<;>cases d<;>cases e<;>rfl
@[simp]def aUM{c:Bool}{x:PV}{st:Bool}:aK c (cz st (gd c x))=aK c (cz st x):=by cases c<;>rfl
@[simp]def aUN{c d:Bool}{x:PV}{st:Bool}:aK (an c d) (cz st (gd c x))=aK (an c d) (cz st x):=by cases c<;>cases d<;>rfl
@[simp]def aUO{c d:Bool}{x:PV}{st:Bool}:aK (an c d) (cz st (gd d x))=aK (an c d) (cz st x):=by cases c<;>cases d<;>rfl
@[simp]def aUP{c d e:Bool}{x:PV}{st:Bool}:aK (an (an c d) e) (cz st (gd c x))=aK (an (an c d) e) (cz st x):=by cases c<;>cases d<;>cases e<;>rfl
@[simp]def aUQ{c d e:Bool}{x:PV}{st:Bool}:aK (an (an c d) e) (cz st (gd (an c d) x))=aK (an (an c d) e) (cz st x):=by cases c<;>cases d<;>cases e<;>rfl
@[simp]def aUR{c:Bool}{x:PV}:aK c (iu (gd c x))=aK c (iu x):=by cases c<;>rfl
@[simp]def aUS{c d:Bool}{x:PV}:aK (an c d) (iu (gd c x))=aK (an c d) (iu x):=by cases c<;>cases d<;>rfl
@[simp]def aUT{c d:Bool}{x:PV}:aK (an c d) (iu (gd d x))=aK (an c d) (iu x):=by cases c<;>cases d<;>rfl
@[simp]def aUU{c d e:Bool}{x:PV}:aK (an (an c d) e) (iu (gd c x))=aK (an (an c d) e) (iu x):=by cases c<;>cases d<;>cases e<;>rfl
@[simp]def aUV{c d e:Bool}{x:PV}:aK (an (an c d) e) (iu (gd (an c d) x))=aK (an (an c d) e) (iu x):=by cases c<;>cases d<;>cases e<;>rfl
@[simp]def aUW{c:Bool}{x:PV}{S:St}{ag:Bool}{n:Nat}:aK c (cS S ag n (gd c x))=aK c (cS S ag n x):=by cases c<;>rfl
@[simp]def aUX{c d:Bool}{x:PV}{S:St}{ag:Bool}{n:Nat}:aK (an c d) (cS S ag n (gd c x))=aK (an c d) (cS S ag n x):=by cases c<;>cases d<;>rfl
@[simp]def aUY{c d:Bool}{x:PV}{S:St}{ag:Bool}{n:Nat}:aK (an c d) (cS S ag n (gd d x))=aK (an c d) (cS S ag n x):=by cases c<;>cases d<;>rfl
@[simp]def aUZ{c d e:Bool}{x:PV}{S:St}{ag:Bool}{n:Nat}:aK (an (an c d) e) (cS S ag n (gd c x))=aK (an (an c d) e) (cS S ag n x):=by cases c<;>cases d<;>cases e<;>rfl
@[simp]def aU0{c d e:Bool}{x:PV}{S:St}{ag:Bool}{n:Nat}:aK (an (an c d) e) (cS S ag n (gd (an c d) x))=aK (an (an c d) e) (cS S ag n x):=by cases c<;>cases d<;>cases e<;>rfl
@[simp]def aU1{c:Bool}{x y:PV}{o:BinOp}:aK c (arith o (gd c x) y)=aK c (arith o x y):=by cases c<;>rfl
@[simp]def aU2{c:Bool}{x y:PV}{o:BinOp}:aK c (arith o y (gd c x))=aK c (arith o y x):=by cases c<;>rfl
@[simp]def aU3{c d:Bool}{x y:PV}{o:BinOp}:aK (an c d) (arith o (gd c x) y)=aK (an c d) (arith o x y):=by cases c<;>cases d<;>rfl
@[simp]def aU4{c d:Bool}{x y:PV}{o:BinOp}:aK (an c d) (arith o y (gd c x))=aK (an c d) (arith o y x):=by cases c<;>cases d<;>rfl
@[simp]def aU5{c d:Bool}{x y:PV}{o:BinOp}:aK (an c d) (arith o (gd d x) y)=aK (an c d) (arith o x y):=by cases c<;>cases d<;>rfl
@[simp]def aU6{c d:Bool}{x y:PV}{o:BinOp}:aK (an c d) (arith o y (gd d x))=aK (an c d) (arith o y x):=by cases c<;>cases d<;>rfl
@[simp]def aU7{c d e:Bool}{x y:PV}{o:BinOp}:aK (an (an c d) e) (arith o (gd c x) y)=aK (an (an c d) e) (arith o x y):=by cases c<;>cases d<;>cases e<;>rfl
@[simp]def aU8{c d e:Bool}{x y:PV}{o:BinOp}:aK (an (an c d) e) (arith o y (gd c x))=aK (an (an c d) e) (arith o y x):=by cases c<;>cases d<;>cases e<;>rfl
@[simp]def aU9{c d e:Bool}{x y:PV}{o:BinOp}:aK (an (an c d) e) (arith o (gd (an c d) x) y)=aK (an (an c d) e) (arith o x y):=by cases c<;>cases d<;>cases e<;>rfl
@[simp]def aVa{c d e:Bool}{x y:PV}{o:BinOp}:aK (an (an c d) e) (arith o y (gd (an c d) x))=aK (an (an c d) e) (arith o y x):=by cases c<;>cases d<;>cases e<;>rfl
@[simp]def aVb{c:Bool}{x y:PV}{neg:Bool}:aK c (fV neg (gd c x) y)=aK c (fV neg x y):=by cases c<;>rfl
@[simp]def aVc{c:Bool}{x y:PV}{neg:Bool}:aK c (fV neg y (gd c x))=aK c (fV neg y x):=by cases c<;>rfl
@[simp]def aVd{c d:Bool}{x y:PV}{neg:Bool}:aK (an c d) (fV neg (gd c x) y)=aK (an c d) (fV neg x y):=by cases c<;>cases d<;>rfl
@[simp]def aVe{c d:Bool}{x y:PV}{neg:Bool}:aK (an c d) (fV neg y (gd c x))=aK (an c d) (fV neg y x):=by cases c<;>cases d<;>rfl
@[simp]def aVf{c d:Bool}{x y:PV}{neg:Bool}:aK (an c d) (fV neg (gd d x) y)=aK (an c d) (fV neg x y):=by cases c<;>cases d<;>rfl
@[simp]def aVg{c d:Bool}{x y:PV}{neg:Bool}:aK (an c d) (fV neg y (gd d x))=aK (an c d) (fV neg y x):=by cases c<;>cases d<;>rfl
@[simp]def aVh{c d e:Bool}{x y:PV}{neg:Bool}:aK (an (an c d) e) (fV neg (gd c x) y)=aK (an (an c d) e) (fV neg x y):=by cases c<;>cases d<;>cases e<;>rfl
@[simp]def aVi{c d e:Bool}{x y:PV}{neg:Bool}:aK (an (an c d) e) (fV neg y (gd c x))=aK (an (an c d) e) (fV neg y x):=by cases c<;>cases d<;>cases e<;>rfl
@[simp]def aVj{c d e:Bool}{x y:PV}{neg:Bool}:aK (an (an c d) e) (fV neg (gd (an c d) x) y)=aK (an (an c d) e) (fV neg x y):=by cases c<;>cases d<;>cases e<;>rfl
@[simp]def aVk{c d e:Bool}{x y:PV}{neg:Bool}:aK (an (an c d) e) (fV neg y (gd (an c d) x))=aK (an (an c d) e) (fV neg y x):=by cases c<;>cases d<;>cases e<;>rfl
@[simp]def aVl{c:Bool}{x y:PV}:aK c (fT (gd c x) y)=aK c (fT x y):=by cases c<;>rfl
@[simp]def aVm{c:Bool}{x y:PV}:aK c (fT y (gd c x))=aK c (fT y x):=by cases c<;>rfl
@[simp]def aVn{c d:Bool}{x y:PV}:aK (an c d) (fT (gd c x) y)=aK (an c d) (fT x y):=by cases c<;>cases d<;>rfl
@[simp]def aVo{c d:Bool}{x y:PV}:aK (an c d) (fT y (gd c x))=aK (an c d) (fT y x):=by cases c<;>cases d<;>rfl
@[simp]def aVp{c d:Bool}{x y:PV}:aK (an c d) (fT (gd d x) y)=aK (an c d) (fT x y):=by cases c<;>cases d<;>rfl
@[simp]def aVq{c d:Bool}{x y:PV}:aK (an c d) (fT y (gd d x))=aK (an c d) (fT y x):=by cases c<;>cases d<;>rfl
@[simp]def aVr{c d e:Bool}{x y:PV}:aK (an (an c d) e) (fT (gd c x) y)=aK (an (an c d) e) (fT x y):=by cases c<;>cases d<;>cases e<;>rfl
@[simp]def aVs{c d e:Bool}{x y:PV}:aK (an (an c d) e) (fT y (gd c x))=aK (an (an c d) e) (fT y x):=by cases c<;>cases d<;>cases e<;>rfl
@[simp]def aVt{c d e:Bool}{x y:PV}:aK (an (an c d) e) (fT (gd (an c d) x) y)=aK (an (an c d) e) (fT x y):=by cases c<;>cases d<;>cases e<;>rfl
@[simp]def aVu{c d e:Bool}{x y:PV}:aK (an (an c d) e) (fT y (gd (an c d) x))=aK (an (an c d) e) (fT y x):=by cases c<;>cases d<;>cases e<;>rfl
@[simp]def aVv{c:Bool}{x y:PV}{len n:Nat}{ag:Bool}:aK c (fU len n ag (gd c x) y)=aK c (fU len n ag x y):=by cases c<;>rfl
@[simp]def aVw{c:Bool}{x y:PV}{len n:Nat}{ag:Bool}:aK c (fU len n ag y (gd c x))=aK c (fU len n ag y x):=by cases c<;>rfl
@[simp]def aVx{c d:Bool}{x y:PV}{len n:Nat}{ag:Bool}:aK (an c d) (fU len n ag (gd c x) y)=aK (an c d) (fU len n ag x y):=by cases c<;>cases d<;>rfl
@[simp]def aVy{c d:Bool}{x y:PV}{len n:Nat}{ag:Bool}:aK (an c d) (fU len n ag y (gd c x))=aK (an c d) (fU len n ag y x):=by cases c<;>cases d<;>rfl
@[simp]def aVz{c d:Bool}{x y:PV}{len n:Nat}{ag:Bool}:aK (an c d) (fU len n ag (gd d x) y)=aK (an c d) (fU len n ag x y):=by cases c<;>cases d<;>rfl
@[simp]def aVA{c d:Bool}{x y:PV}{len n:Nat}{ag:Bool}:aK (an c d) (fU len n ag y (gd d x))=aK (an c d) (fU len n ag y x):=by cases c<;>cases d<;>rfl
@[simp]def aVB{c d e:Bool}{x y:PV}{len n:Nat}{ag:Bool}:aK (an (an c d) e) (fU len n ag (gd c x) y)=aK (an (an c d) e) (fU len n ag x y):=by cases c<;>cases d<;>cases e<;>rfl
@[simp]def aVC{c d e:Bool}{x y:PV}{len n:Nat}{ag:Bool}:aK (an (an c d) e) (fU len n ag y (gd c x))=aK (an (an c d) e) (fU len n ag y x):=by cases c<;>cases d<;>cases e<;>rfl
@[simp]def aVD{c d e:Bool}{x y:PV}{len n:Nat}{ag:Bool}:aK (an (an c d) e) (fU len n ag (gd (an c d) x) y)=aK (an (an c d) e) (fU len n ag x y):=by cases c<;>cases d<;>cases e<;>rfl
@[simp]def aVE{c d e:Bool}{x y:PV}{len n:Nat}{ag:Bool}:aK (an (an c d) e) (fU len n ag y (gd (an c d) x))=aK (an (an c d) e) (fU len n ag y x):=by cases c<;>cases d<;>cases e<;>rfl
@[simp]def aVF{c:Bool}{x y:PV}{sz:Nat}:aK c (dQ sz (gd c x) y)=aK c (dQ sz x y):=by cases c<;>rfl
@[simp]def aVG{c:Bool}{x y:PV}{sz:Nat}:aK c (dQ sz y (gd c x))=aK c (dQ sz y x):=by cases c<;>rfl
@[simp]def aVH{c d:Bool}{x y:PV}{sz:Nat}:aK (an c d) (dQ sz (gd c x) y)=aK (an c d) (dQ sz x y):=by cases c<;>cases d<;>rfl
@[simp]def aVI{c d:Bool}{x y:PV}{sz:Nat}:aK (an c d) (dQ sz y (gd c x))=aK (an c d) (dQ sz y x):=by cases c<;>cases d<;>rfl
@[simp]def aVJ{c d:Bool}{x y:PV}{sz:Nat}:aK (an c d) (dQ sz (gd d x) y)=aK (an c d) (dQ sz x y):=by cases c<;>cases d<;>rfl
@[simp]def aVK{c d:Bool}{x y:PV}{sz:Nat}:aK (an c d) (dQ sz y (gd d x))=aK (an c d) (dQ sz y x):=by cases c<;>cases d<;>rfl
@[simp]def aVL{c d e:Bool}{x y:PV}{sz:Nat}:aK (an (an c d) e) (dQ sz (gd c x) y)=aK (an (an c d) e) (dQ sz x y):=by cases c<;>cases d<;>cases e<;>rfl
@[simp]def aVM{c d e:Bool}{x y:PV}{sz:Nat}:aK (an (an c d) e) (dQ sz y (gd c x))=aK (an (an c d) e) (dQ sz y x):=by cases c<;>cases d<;>cases e<;>rfl
@[simp]def aVN{c d e:Bool}{x y:PV}{sz:Nat}:aK (an (an c d) e) (dQ sz (gd (an c d) x) y)=aK (an (an c d) e) (dQ sz x y):=by cases c<;>cases d<;>cases e<;>rfl
@[simp]def aVO{c d e:Bool}{x y:PV}{sz:Nat}:aK (an (an c d) e) (dQ sz y (gd (an c d) x))=aK (an (an c d) e) (dQ sz y x):=by cases c<;>cases d<;>cases e<;>rfl
@[simp]def aVP{c:Bool}{x y:PV}{len sz:Nat}:aK c (fI len sz (gd c x) y)=aK c (fI len sz x y):=by cases c<;>rfl
@[simp]def aVQ{c:Bool}{x y:PV}{len sz:Nat}:aK c (fI len sz y (gd c x))=aK c (fI len sz y x):=by cases c<;>rfl
@[simp]def aVR{c d:Bool}{x y:PV}{len sz:Nat}:aK (an c d) (fI len sz (gd c x) y)=aK (an c d) (fI len sz x y):=by cases c<;>cases d<;>rfl
@[simp]def aVS{c d:Bool}{x y:PV}{len sz:Nat}:aK (an c d) (fI len sz y (gd c x))=aK (an c d) (fI len sz y x):=by cases c<;>cases d<;>rfl
@[simp]def aVT{c d:Bool}{x y:PV}{len sz:Nat}:aK (an c d) (fI len sz (gd d x) y)=aK (an c d) (fI len sz x y):=by cases c<;>cases d<;>rfl
@[simp]def aVU{c d:Bool}{x y:PV}{len sz:Nat}:aK (an c d) (fI len sz y (gd d x))=aK (an c d) (fI len sz y x):=by cases c<;>cases d<;>rfl
@[simp]def aVV{c d e:Bool}{x y:PV}{len sz:Nat}:aK (an (an c d) e) (fI len sz (gd c x) y)=aK (an (an c d) e) (fI len sz x y):=by cases c<;>cases d<;>cases e<;>rfl
@[simp]def aVW{c d e:Bool}{x y:PV}{len sz:Nat}:aK (an (an c d) e) (fI len sz y (gd c x))=aK (an (an c d) e) (fI len sz y x):=by cases c<;>cases d<;>cases e<;>rfl
@[simp]def aVX{c d e:Bool}{x y:PV}{len sz:Nat}:aK (an (an c d) e) (fI len sz (gd (an c d) x) y)=aK (an (an c d) e) (fI len sz x y):=by cases c<;>cases d<;>cases e<;>rfl
@[simp]def aVY{c d e:Bool}{x y:PV}{len sz:Nat}:aK (an (an c d) e) (fI len sz y (gd (an c d) x))=aK (an (an c d) e) (fI len sz y x):=by cases c<;>cases d<;>cases e<;>rfl
@[simp]def aVZ{c:Bool}{x y:PV}{mx:Bool}:aK c (ed mx (gd c x) y)=aK c (ed mx x y):=by cases c<;>rfl
@[simp]def aV0{c:Bool}{x y:PV}{mx:Bool}:aK c (ed mx y (gd c x))=aK c (ed mx y x):=by cases c<;>rfl
@[simp]def aV1{c d:Bool}{x y:PV}{mx:Bool}:aK (an c d) (ed mx (gd c x) y)=aK (an c d) (ed mx x y):=by cases c<;>cases d<;>rfl
@[simp]def aV2{c d:Bool}{x y:PV}{mx:Bool}:aK (an c d) (ed mx y (gd c x))=aK (an c d) (ed mx y x):=by cases c<;>cases d<;>rfl
@[simp]def aV3{c d:Bool}{x y:PV}{mx:Bool}:aK (an c d) (ed mx (gd d x) y)=aK (an c d) (ed mx x y):=by cases c<;>cases d<;>rfl
@[simp]def aV4{c d:Bool}{x y:PV}{mx:Bool}:aK (an c d) (ed mx y (gd d x))=aK (an c d) (ed mx y x):=by cases c<;>cases d<;>rfl
@[simp]def aV5{c d e:Bool}{x y:PV}{mx:Bool}:aK (an (an c d) e) (ed mx (gd c x) y)=aK (an (an c d) e) (ed mx x y):=by cases c<;>cases d<;>cases e<;>rfl
@[simp]def aV6{c d e:Bool}{x y:PV}{mx:Bool}:aK (an (an c d) e) (ed mx y (gd c x))=aK (an (an c d) e) (ed mx y x):=by cases c<;>cases d<;>cases e<;>rfl
@[simp]def aV7{c d e:Bool}{x y:PV}{mx:Bool}:aK (an (an c d) e) (ed mx (gd (an c d) x) y)=aK (an (an c d) e) (ed mx x y):=by cases c<;>cases d<;>cases e<;>rfl
@[simp]def aV8{c d e:Bool}{x y:PV}{mx:Bool}:aK (an (an c d) e) (ed mx y (gd (an c d) x))=aK (an (an c d) e) (ed mx y x):=by cases c<;>cases d<;>cases e<;>rfl
@[simp]def aV9{c:Bool}{x y:PV}{neg isb:Bool}{n:Nat}:aK c (fS neg isb n (gd c x) y)=aK c (fS neg isb n x y):=by cases c<;>rfl
@[simp]def aWa{c:Bool}{x y:PV}{neg isb:Bool}{n:Nat}:aK c (fS neg isb n y (gd c x))=aK c (fS neg isb n y x):=by cases c<;>rfl
@[simp]def aWb{c d:Bool}{x y:PV}{neg isb:Bool}{n:Nat}:aK (an c d) (fS neg isb n (gd c x) y)=aK (an c d) (fS neg isb n x y):=by cases c<;>cases d<;>rfl
@[simp]def aWc{c d:Bool}{x y:PV}{neg isb:Bool}{n:Nat}:aK (an c d) (fS neg isb n y (gd c x))=aK (an c d) (fS neg isb n y x):=by cases c<;>cases d<;>rfl
@[simp]def aWd{c d:Bool}{x y:PV}{neg isb:Bool}{n:Nat}:aK (an c d) (fS neg isb n (gd d x) y)=aK (an c d) (fS neg isb n x y):=by cases c<;>cases d<;>rfl
@[simp]def aWe{c d:Bool}{x y:PV}{neg isb:Bool}{n:Nat}:aK (an c d) (fS neg isb n y (gd d x))=aK (an c d) (fS neg isb n y x):=by cases c<;>cases d<;>rfl
@[simp]def aWf{c d e:Bool}{x y:PV}{neg isb:Bool}{n:Nat}:aK (an (an c d) e) (fS neg isb n (gd c x) y)=aK (an (an c d) e) (fS neg isb n x y):=by cases c<;>cases d<;>cases e<;>rfl
@[simp]def aWg{c d e:Bool}{x y:PV}{neg isb:Bool}{n:Nat}:aK (an (an c d) e) (fS neg isb n y (gd c x))=aK (an (an c d) e) (fS neg isb n y x):=by cases c<;>cases d<;>cases e<;>rfl
@[simp]def aWh{c d e:Bool}{x y:PV}{neg isb:Bool}{n:Nat}:aK (an (an c d) e) (fS neg isb n (gd (an c d) x) y)=aK (an (an c d) e) (fS neg isb n x y):=by cases c<;>cases d<;>cases e<;>rfl
@[simp]def aWi{c d e:Bool}{x y:PV}{neg isb:Bool}{n:Nat}:aK (an (an c d) e) (fS neg isb n y (gd (an c d) x))=aK (an (an c d) e) (fS neg isb n y x):=by cases c<;>cases d<;>cases e<;>rfl
@[simp]def aWj{c:Bool}{x:PV}:gd c (gd c x)=gd c x:=by cases c<;>rfl
@[simp]def aWk{c:Bool}{a b p:PV}:aK c (ci (gd c a) b p)=aK c (ci a b p):=by cases c<;>rfl
@[simp]def aWl{c:Bool}{a b p:PV}:aK c (ci a (gd c b) p)=aK c (ci a b p):=by cases c<;>rfl
@[simp]def aWm{c:Bool}{a b p:PV}:aK c (ci a b (gd c p))=aK c (ci a b p):=by cases c<;>rfl
@[simp]def aWn{c d:Bool}{x:PV}:gd (an c d) (gd c x)=gd (an c d) x:=by cases c<;>cases d<;>rfl
@[simp]def aWo{c d:Bool}{a b p:PV}:aK (an c d) (ci (gd c a) b p)=aK (an c d) (ci a b p):=by cases c<;>cases d<;>rfl
@[simp]def aWp{c d:Bool}{a b p:PV}:aK (an c d) (ci a (gd c b) p)=aK (an c d) (ci a b p):=by cases c<;>cases d<;>rfl
@[simp]def aWq{c d:Bool}{a b p:PV}:aK (an c d) (ci a b (gd c p))=aK (an c d) (ci a b p):=by cases c<;>cases d<;>rfl
@[simp]def aWr{c d:Bool}{x:PV}:gd (an c d) (gd d x)=gd (an c d) x:=by cases c<;>cases d<;>rfl
@[simp]def aWs{c d:Bool}{a b p:PV}:aK (an c d) (ci (gd d a) b p)=aK (an c d) (ci a b p):=by cases c<;>cases d<;>rfl
@[simp]def aWt{c d:Bool}{a b p:PV}:aK (an c d) (ci a (gd d b) p)=aK (an c d) (ci a b p):=by cases c<;>cases d<;>rfl
@[simp]def aWu{c d:Bool}{a b p:PV}:aK (an c d) (ci a b (gd d p))=aK (an c d) (ci a b p):=by cases c<;>cases d<;>rfl
@[simp]def aWv{c d e:Bool}{x:PV}:gd (an (an c d) e) (gd c x)=gd (an (an c d) e) x:=by cases c<;>cases d<;>cases e<;>rfl
@[simp]def aWw{c d e:Bool}{a b p:PV}:aK (an (an c d) e) (ci (gd c a) b p)=aK (an (an c d) e) (ci a b p):=by cases c<;>cases d<;>cases e<;>rfl
@[simp]def aWx{c d e:Bool}{a b p:PV}:aK (an (an c d) e) (ci a (gd c b) p)=aK (an (an c d) e) (ci a b p):=by cases c<;>cases d<;>cases e<;>rfl
@[simp]def aWy{c d e:Bool}{a b p:PV}:aK (an (an c d) e) (ci a b (gd c p))=aK (an (an c d) e) (ci a b p):=by cases c<;>cases d<;>cases e<;>rfl
@[simp]def aWz{c d e:Bool}{x:PV}:gd (an (an c d) e) (gd (an c d) x)=gd (an (an c d) e) x:=by cases c<;>cases d<;>cases e<;>rfl
@[simp]def aWA{c d e:Bool}{a b p:PV}:aK (an (an c d) e) (ci (gd (an c d) a) b p)=aK (an (an c d) e) (ci a b p):=by cases c<;>cases d<;>cases e<;>rfl
@[simp]def aWB{c d e:Bool}{a b p:PV}:aK (an (an c d) e) (ci a (gd (an c d) b) p)=aK (an (an c d) e) (ci a b p):=by cases c<;>cases d<;>cases e<;>rfl
@[simp]def aWC{c d e:Bool}{a b p:PV}:aK (an (an c d) e) (ci a b (gd (an c d) p))=aK (an (an c d) e) (ci a b p):=by cases c<;>cases d<;>cases e<;>rfl
@[simp]def aWD{T:bH}{f:Nat}{c:Bool}{x:PV}:aK c (iY T f [gd c x])=aK c (iY T f [x]):=by cases c<;>rfl
@[simp]def aWE{T:bH}{f:Nat}{c:Bool}{x y:PV}:aK c (iY T f [gd c x,y])=aK c (iY T f [x,y]):=by cases c<;>rfl
@[simp]def aWF{T:bH}{f:Nat}{c:Bool}{x y:PV}:aK c (iY T f [x,gd c y])=aK c (iY T f [x,y]):=by cases c<;>rfl
@[simp]def aWG{c:Bool}{a b:PV}:ci (.bool c) (gd c a) b=ci (.bool c) a b:=by cases c<;>rfl
@[simp]def aWH{c:Bool}{a b:PV}:ci (.bool c) a (gd (nt c) b)=ci (.bool c) a b:=by cases c<;>rfl
@[simp]def aWI{g c:Bool}{a b:PV}:aK g (ci (.bool c) (gd (an g c) a) b)=aK g (ci (.bool c) a b):=by cases g<;>cases c<;>rfl
@[simp]def aWJ{g c:Bool}{a b:PV}:aK g (ci (.bool c) a (gd (an g (nt c)) b))=aK g (ci (.bool c) a b):=by cases g<;>cases c<;>rfl
section
variable {T : bH} {K : List Kt} {fr : Fr} {S : St} {d t : Nat} {gb : Bool} {l : List aF}
def dw{op:cK}{q:Option PV}(h:cO T fr S op=fm S q):aJ T (.ops (⟨some d,op,some (t,gb)⟩::l)::K) fr S=ob (dI (fr t) gb q) fun v=>aJ T (.ops l::K) (bw fr d v) S:=by
 rw[jI];cases hv:fr t<;>try rfl
 ·rename_i c;rw[aMy];cases c<;>cases gb<;>simp only[aMH,aMI,aMF,aMG,aMC,aMD,if_true,od,cF,Bool.true_eq_false,if_false]<;>first|rfl|exact dt h
 ·rename_i vs;cases vs<;>rfl
@[simp]def aWK{x:aM}:aJ T (.ops (⟨some d,.mov x,some (t,gb)⟩::l)::K) fr S=ob (dI (fr t) gb (some (ev fr x))) fun v=>aJ T (.ops l::K) (bw fr d v) S:=dw rfl
@[simp]def aWL{t':Nat}{x:aM}:aJ T (.ops (⟨some d,.mkif t' x,some (t,gb)⟩::l)::K) fr S=ob (dI (fr t) gb (some (.iface t' (ev fr x)))) fun v=>aJ T (.ops l::K) (bw fr d v) S:=dw rfl
@[simp]def aWM{f:Nat}{caps:List aM}:aJ T (.ops (⟨some d,.mkfn f caps,some (t,gb)⟩::l)::K) fr S=ob (dI (fr t) gb (some (.fn f (caps.map (ev fr))))) fun v=>aJ T (.ops l::K) (bw fr d v) S:=dw rfl
@[simp]def aWN{c a b:aM}:aJ T (.ops (⟨some d,.pick c a b,some (t,gb)⟩::l)::K) fr S=ob (dI (fr t) gb (ci (ev fr c) (ev fr a) (ev fr b))) fun v=>aJ T (.ops l::K) (bw fr d v) S:=dw rfl
@[simp]def aWO{o:BinOp}{x y:aM}:aJ T (.ops (⟨some d,.arith o x y,some (t,gb)⟩::l)::K) fr S=ob (dI (fr t) gb (arith o (ev fr x) (ev fr y))) fun v=>aJ T (.ops l::K) (bw fr d v) S:=dw rfl
@[simp]def aWP{o:UnOp}{x:aM}:aJ T (.ops (⟨some d,.un o x,some (t,gb)⟩::l)::K) fr S=ob (dI (fr t) gb (unOp o (ev fr x))) fun v=>aJ T (.ops l::K) (bw fr d v) S:=dw rfl
@[simp]def aWQ{neg:Bool}{x y:aM}:aJ T (.ops (⟨some d,.eqb neg x y,some (t,gb)⟩::l)::K) fr S=ob (dI (fr t) gb (fV neg (ev fr x) (ev fr y))) fun v=>aJ T (.ops l::K) (bw fr d v) S:=dw rfl
@[simp]def aWR{neg:Bool}{k:NK}{x:aM}:aJ T (.ops (⟨some d,.eqn neg k x,some (t,gb)⟩::l)::K) fr S=ob (dI (fr t) gb (eg neg k (ev fr x))) fun v=>aJ T (.ops l::K) (bw fr d v) S:=dw rfl
@[simp]def aWS{x:aM}:aJ T (.ops (⟨some d,.nilck x,some (t,gb)⟩::l)::K) fr S=ob (dI (fr t) gb (iX (ev fr x))) fun v=>aJ T (.ops l::K) (bw fr d v) S:=dw (by simp only[cO,aI,aQ];rfl)
@[simp]def aWT{neg isb:Bool}{n:Nat}{x y:aM}:aJ T (.ops (⟨some d,.eqa neg isb n x y,some (t,gb)⟩::l)::K) fr S=ob (dI (fr t) gb (fS neg isb n (ev fr x) (ev fr y))) fun v=>aJ T (.ops l::K) (bw fr d v) S:=dw (by simp only[cO,aI,aQ];rfl)
@[simp]def aWU{neg:Bool}{n:Nat}{x y:aM}:aJ T (.ops (⟨some d,.eqs neg n x y,some (t,gb)⟩::l)::K) fr S=ob (dI (fr t) gb (Fj neg n (ev fr x) (ev fr y))) fun v=>aJ T (.ops l::K) (bw fr d v) S:=dw (by simp only[cO,aI,aQ];rfl)
@[simp]def aWV{k:IntKind}{x:aM}:aJ T (.ops (⟨some d,.toInt k x,some (t,gb)⟩::l)::K) fr S=ob (dI (fr t) gb (jq k (ev fr x))) fun v=>aJ T (.ops l::K) (bw fr d v) S:=dw (by simp only[cO,aI,aQ];rfl)
@[simp]def aWW{x:aM}:aJ T (.ops (⟨some d,.strId x,some (t,gb)⟩::l)::K) fr S=ob (dI (fr t) gb (jr (ev fr x))) fun v=>aJ T (.ops l::K) (bw fr d v) S:=dw (by simp only[cO,aI,aQ];rfl)
@[simp]def aWX{x:aM}:aJ T (.ops (⟨some d,.toStr x,some (t,gb)⟩::l)::K) fr S=ob (dI (fr t) gb (iu (ev fr x))) fun v=>aJ T (.ops l::K) (bw fr d v) S:=dw rfl
@[simp]def aWY{ag:Bool}{off n:Nat}{x:aM}:aJ T (.ops (⟨some d,.field ag off n x,some (t,gb)⟩::l)::K) fr S=ob (dI (fr t) gb (js ag off n (ev fr x))) fun v=>aJ T (.ops l::K) (bw fr d v) S:=dw (by simp only[cO,aI,aQ];rfl)
@[simp]def aWZ{z:List PV}{ps:List (Nat×Nat×aM)}:aJ T (.ops (⟨some d,.build z ps,some (t,gb)⟩::l)::K) fr S=ob (dI (fr t) gb (aQ fr (.build z ps))) fun v=>aJ T (.ops l::K) (bw fr d v) S:=dw rfl
@[simp]def aW0{i:Nat}{x:aM}:aJ T (.ops (⟨some d,.extract i x,some (t,gb)⟩::l)::K) fr S=ob (dI (fr t) gb (jt i (ev fr x))) fun v=>aJ T (.ops l::K) (bw fr d v) S:=dw (by simp only[cO,aI,aQ];rfl)
@[simp]def aW1{t':Nat}{ok:Bool}{z:PV}{x:aM}:aJ T (.ops (⟨some d,.assert t' ok z x,some (t,gb)⟩::l)::K) fr S=ob (dI (fr t) gb (jT t' ok z (ev fr x))) fun v=>aJ T (.ops l::K) (bw fr d v) S:=dw (by simp only[cO,aI,aQ];rfl)
@[simp]def aW2{x i:aM}:aJ T (.ops (⟨some d,.idxs x i,some (t,gb)⟩::l)::K) fr S=ob (dI (fr t) gb (fT (ev fr x) (ev fr i))) fun v=>aJ T (.ops l::K) (bw fr d v) S:=dw (by simp only[cO,aI,aQ];rfl)
@[simp]def aW3{len n:Nat}{ag:Bool}{x i:aM}:aJ T (.ops (⟨some d,.idxa len n ag x i,some (t,gb)⟩::l)::K) fr S=ob (dI (fr t) gb (fU len n ag (ev fr x) (ev fr i))) fun v=>aJ T (.ops l::K) (bw fr d v) S:=dw (by simp only[cO,aI,aQ];rfl)
@[simp]def aW4{lo hi:Option aM}{x:aM}:aJ T (.ops (⟨some d,.slcs lo hi x,some (t,gb)⟩::l)::K) fr S=ob (dI (fr t) gb (ju (cW fr lo) (cW fr hi) (ev fr x))) fun v=>aJ T (.ops l::K) (bw fr d v) S:=dw (by simp only[cO,aI,aQ];rfl)
@[simp]def aW5{sz:Nat}{lo hi:Option aM}{x:aM}:aJ T (.ops (⟨some d,.slc sz lo hi x,some (t,gb)⟩::l)::K) fr S=ob (dI (fr t) gb (eQ sz (cW fr lo) (cW fr hi) (ev fr x))) fun v=>aJ T (.ops l::K) (bw fr d v) S:=dw (by simp only[cO,aI,aQ];rfl)
@[simp]def aW6{len sz:Nat}{lo hi:Option aM}{x:aM}:aJ T (.ops (⟨some d,.slca len sz lo hi x,some (t,gb)⟩::l)::K) fr S=ob (dI (fr t) gb (Fi len sz (cW fr lo) (cW fr hi) (ev fr x))) fun v=>aJ T (.ops l::K) (bw fr d v) S:=dw (by simp only[cO,aI,aQ];rfl)
@[simp]def aW7{off:Nat}{x:aM}:aJ T (.ops (⟨some d,.faddr off x,some (t,gb)⟩::l)::K) fr S=ob (dI (fr t) gb (jU off (ev fr x))) fun v=>aJ T (.ops l::K) (bw fr d v) S:=dw (by simp only[cO,aI,aQ];rfl)
@[simp]def aW8{sz:Nat}{x i:aM}:aJ T (.ops (⟨some d,.iaddr sz x i,some (t,gb)⟩::l)::K) fr S=ob (dI (fr t) gb (dQ sz (ev fr x) (ev fr i))) fun v=>aJ T (.ops l::K) (bw fr d v) S:=dw (by simp only[cO,aI,aQ];rfl)
@[simp]def aW9{len sz:Nat}{x i:aM}:aJ T (.ops (⟨some d,.iaddra len sz x i,some (t,gb)⟩::l)::K) fr S=ob (dI (fr t) gb (fI len sz (ev fr x) (ev fr i))) fun v=>aJ T (.ops l::K) (bw fr d v) S:=dw (by simp only[cO,aI,aQ];rfl)
@[simp]def aXa {st:Bool} {x:aM}:aJ T (.ops (⟨some d,.len st x,some (t,gb)⟩::l)::K) fr S=ob (dI (fr t) gb (cz st (ev fr x))) fun v=>aJ T (.ops l::K) (bw fr d v) S:=dw (by have h:cO T fr S (.len st x)=fm S (aQ fr (.len st x)):=by {cases st<;>rfl};rw[h,ZU])
@[simp]def aXb{mx:Bool}{x y:aM}:aJ T (.ops (⟨some d,.mnmx mx x y,some (t,gb)⟩::l)::K) fr S=ob (dI (fr t) gb (ed mx (ev fr x) (ev fr y))) fun v=>aJ T (.ops l::K) (bw fr d v) S:=dw (by simp only[cO,aI,aQ];rfl)
@[simp]def aXc{d:Option Nat}{n:Nat}{a v:aM}:aJ T (.ops (⟨d,.store n a v,some (t,gb)⟩::l)::K) fr S=ft (fr t) gb (aJ T (.ops (⟨d,.store n a v,none⟩::l)::K) fr S) (aJ T (.ops l::K) (aw fr d (.tup [])) S):=jI
@[simp]def aXd{d:Option Nat}{q:List Nat}{n:Nat}{a v:aM}:aJ T (.ops (⟨d,.stb q n a v,some (t,gb)⟩::l)::K) fr S=ft (fr t) gb (aJ T (.ops (⟨d,.stb q n a v,none⟩::l)::K) fr S) (aJ T (.ops l::K) (aw fr d (.tup [])) S):=jI
@[simp]def aXe{d:Option Nat}{ro:Bool}{x:aM}:aJ T (.ops (⟨d,.box ro x,some (t,gb)⟩::l)::K) fr S=ft (fr t) gb (aJ T (.ops (⟨d,.box ro x,none⟩::l)::K) fr S) (aJ T (.ops l::K) (aw fr d (.tup [])) S):=jI
@[simp]def aXf{d:Option Nat}{ro:Bool}{z:List PV}:aJ T (.ops (⟨d,.alloc ro z,some (t,gb)⟩::l)::K) fr S=ft (fr t) gb (aJ T (.ops (⟨d,.alloc ro z,none⟩::l)::K) fr S) (aJ T (.ops l::K) (aw fr d (.tup [])) S):=jI
@[simp]def aXg{d:Option Nat}{ro:Bool}{ze:PV}{n:Nat}{ps:List (Nat×aM)}:aJ T (.ops (⟨d,.bsl ro ze n ps,some (t,gb)⟩::l)::K) fr S=ft (fr t) gb (aJ T (.ops (⟨d,.bsl ro ze n ps,none⟩::l)::K) fr S) (aJ T (.ops l::K) (aw fr d (.tup [])) S):=jI
@[simp]def aXh{d:Option Nat}{ro:Bool}{x:aM}:aJ T (.ops (⟨d,.toBytes ro x,some (t,gb)⟩::l)::K) fr S=ft (fr t) gb (aJ T (.ops (⟨d,.toBytes ro x,none⟩::l)::K) fr S) (aJ T (.ops l::K) (aw fr d (.tup [])) S):=jI
@[simp]def aXi{d:Option Nat}{sz b:Nat}{c:aM}:aJ T (.ops (⟨d,.mks sz b c,some (t,gb)⟩::l)::K) fr S=ft (fr t) gb (aJ T (.ops (⟨d,.mks sz b c,none⟩::l)::K) fr S) (aJ T (.ops l::K) (aw fr d (.tup [])) S):=jI
@[simp]def aXj{d:Option Nat}{sz b:Nat}{s x:aM}:aJ T (.ops (⟨d,.app sz b s x,some (t,gb)⟩::l)::K) fr S=ft (fr t) gb (aJ T (.ops (⟨d,.app sz b s x,none⟩::l)::K) fr S) (aJ T (.ops l::K) (aw fr d (.tup [])) S):=jI
@[simp]def aXk{d:Option Nat}{sz b:Nat}{s x:aM}:aJ T (.ops (⟨d,.gapp sz b s x,some (t,gb)⟩::l)::K) fr S=ft (fr t) gb (aJ T (.ops (⟨d,.gapp sz b s x,none⟩::l)::K) fr S) (aJ T (.ops l::K) (aw fr d (.tup [])) S):=jI
@[simp]def aXl{d:Option Nat}{x:aM}:aJ T (.ops (⟨d,.toStrO x,some (t,gb)⟩::l)::K) fr S=ft (fr t) gb (aJ T (.ops (⟨d,.toStrO x,none⟩::l)::K) fr S) (aJ T (.ops l::K) (aw fr d (.tup [])) S):=jI
@[simp]def aXm{d:Option Nat}{m:CM}{f:Nat}{xs:List aM}:aJ T (.ops (⟨d,.call m f xs,some (t,gb)⟩::l)::K) fr S=ft (fr t) gb (aJ T (.ops (⟨d,.call m f xs,none⟩::l)::K) fr S) (aJ T (.ops l::K) (aw fr d (.tup [])) S):=jI
@[simp]def aXn{d:Option Nat}{m:CM}{x:aM}{xs:List aM}:aJ T (.ops (⟨d,.callv m x xs,some (t,gb)⟩::l)::K) fr S=ft (fr t) gb (aJ T (.ops (⟨d,.callv m x xs,none⟩::l)::K) fr S) (aJ T (.ops l::K) (aw fr d (.tup [])) S):=jI
@[simp]def aXo{d:Option Nat}{cm:CM}{m:Nat}{x:aM}{xs:List aM}:aJ T (.ops (⟨d,.inv cm m x xs,some (t,gb)⟩::l)::K) fr S=ft (fr t) gb (aJ T (.ops (⟨d,.inv cm m x xs,none⟩::l)::K) fr S) (aJ T (.ops l::K) (aw fr d (.tup [])) S):=jI
def aMJ{ag:Bool}{n:Nat}{mix:Bool}{x:aM}:cO T fr S (.load ag n mix x)=fm S (if mix then(match ev fr x with|.ref cs=>ae ag n cs|_=>none)else cS S ag n (ev fr x)):=by
 cases mix
 ·simp only[cO,aI,cF,if_false];cases ev fr x<;>simp only[cS]<;>try rfl
  case ptr id off=>
   cases h:S.objs[id]? with
   |none=>rfl
   |some cs=>cases h2:ae ag n (cs.drop off)<;>simp[h2,fm]
 ·rfl
@[simp]def aXp{ag:Bool}{n:Nat}{mix:Bool}{x:aM}:aJ T (.ops (⟨some d,.load ag n mix x,some (t,gb)⟩::l)::K) fr S=ob (dI (fr t) gb (if mix then(match ev fr x with|.ref cs=>ae ag n cs|_=>none)else cS S ag n (ev fr x))) fun v=>aJ T (.ops l::K) (bw fr d v) S:=dw aMJ
@[simp 1100] def aXq {f:Nat}{xs:List aM}:aJ T (.ops (⟨some d,.call .pur f xs,some (t,gb)⟩::l)::K) fr S=ob (dI (fr t) gb (iY T f (xs.map (ev fr)))) fun v=>aJ T (.ops l::K) (bw fr d v) S:=by
 refine dw ?_;show cd (aO T) .pur f _ S=_;rw[Vx];unfold iY;split<;>rfl
end
@[simp]def qN{T:bH}{f:Nat}{args:List PV}{S:St}:cd (aO T) .std f args S=aO T f args S:=rfl
@[simp]def aXr{S:St}{v:PV}:fm S (some v)=some (v,S):=rfl
@[simp]def aXs{S:St}:fm S none=none:=rfl
@[simp]def aMK{r:PV}{S:St}:yO (some (r,S))=if r.free then some r.frz else none:=rfl
def aML{T:bH}{f:Nat}{args:List PV}{r:PV}{S:St}(h:aO T f args bk=some (r,S))(hf:r.free=true):eu T f args=some r.frz:=by
 rw[eu,h,aMK,if_pos hf]
def Fp{T:bH}{f:Nat}{c:ai}(hf:T.fn f=some (.code c)){args:List PV}{S:St}{x:PV×St}(ha:args.length=c.params)
  (h:ob (aJ T [.code c.body] (gV args) S) (fun y=>ob (eN y.1 y.2 c.results) fun vs=>some (ac c.raw S y.2 (iF vs)))=some x):aO T f args S=some x:=by
 refine aCU c hf ha ?_
 cases hg:aJ T [.code c.body] (gV args) S with
 |none=>rw[hg]at h;cases h
 |some y=>
  rw[hg]at h;simp only[od]at h;simp only[Ak]
  cases hr:eN y.1 y.2 c.results with
  |none=>rw[hr]at h;cases h
  |some vs=>rw[hr]at h;exact h
attribute [simp] gV eN pO iF
@[simp]def aXt(S:St)(sz:Nat)(es:List PV):(bp S sz es).1=.sl (some (S.tips.length,es.length)) es []:=rfl
@[simp]def aXu(S:St)(sz:Nat)(es:List PV):(bp S sz es).2.objs=S.objs:=rfl
@[simp]def aXv(S:St)(sz:Nat)(es:List PV):(bp S sz es).2.tips=S.tips++[(es.length,sz)]:=rfl
def bJ{n:Int}(h1:-9223372036854775808≤n)(h2:n<9223372036854775808):IntKind.i64.wrap n=n:=by
 have e:IntKind.i64.wrap n=if n%18446744073709551616≥9223372036854775808 then n%18446744073709551616-18446744073709551616 else n%18446744073709551616:=by
  simp[IntKind.wrap,IntKind.bits,IntKind.signed]
 rw[e];split<;>omega
def Fq{n:Int}(h1:0≤n)(h2:n<256):IntKind.u8.wrap n=n:=by
 have e:IntKind.u8.wrap n=n%256:=by
  simp[IntKind.wrap,IntKind.bits,IntKind.signed]
 rw[e];omega
def dR{a:Nat}(h:a<9223372036854775807):IntKind.i64.wrap ((a:Int)+1)=((a+1:Nat):Int):=by
 rw[bJ]<;>omega
def aMM{S1:St}{r r':PV}(h:bQ S1.objs 0 eM r=some r'):ac false bk S1 r=(r'.frz,bk):=by
 unfold ac;simp only[cF,if_false];have h0:bk.objs.length=0:=rfl;have h1:bk.tips.length=0:=rfl;rw[h0,h,h1];simp[PV.beqLL,bk]
@[simp]def ZX{S1:St}{r:PV}(h:r.free=true):ac false bk S1 r=(r.frz,bk):=by
 refine aMM ?_;unfold eM bQ;rw[if_pos h]
def ZY{b:Bool}{S S1:St}{r:PV}(h1:S1.objs.length=S.objs.length)(h2:S1.tips=S.tips)(hf:r.free=true)(hz:r.frz=r)(hq:∀l m:List (List PV),PV.beqLL l m=true→l=m):ac b S S1 r=(r,S1):=by
 unfold ac;have hs:bQ S1.objs S.objs.length eM r=some r:=by unfold eM bQ;rw[if_pos hf]
 have ht:S1.objs.take S.objs.length=S1.objs:=by rw[←h1];simp
 have ht2:S1.tips.take S.tips.length=S1.tips:=by rw[h2];simp
 rw[hs,ht,ht2];split
 ·rfl
 ·simp only[hz];split
  ·rename_i h;rw[←hq _ _ h]
  ·split<;>rfl
def Acc(sz:Nat)(S:St)(v:PV)(es:List PV):Prop:=
 (v=.nils∧es=[])∨∃id,v=.sl (some (id,es.length)) es []∧S.tips[id]?=some (es.length,sz)
end Ps
