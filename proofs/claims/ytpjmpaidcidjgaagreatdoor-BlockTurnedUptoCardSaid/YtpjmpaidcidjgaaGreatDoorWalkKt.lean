/- Rules for walking a function by rewriting. -/
import Derived.Test.YtpjmpaidcidjgaaGreatDoorAbbKt
import Derived.Test.YtpjmpaidcidjgaaGreatDoorGoKt
set_option linter.defProp false
namespace Ps
open Go
def aP{l m:List aA}(h:l=m)(T:aM)(K:List Kt)(fr:Fr)(S:St):aF T (.ops l::K) fr S=aF T (.ops m::K) fr S:=by rw[h]
def bG{l m:aN}(h:l=m)(T:aM)(K:List Kt)(fr:Fr)(S:St):aF T (.code l::K) fr S=aF T (.code m::K) fr S:=by rw[h]
abbrev aD(a b:Nat)(r:List aA):aN:=.clr [(a,b)] (.region r)
abbrev aZ(r:List aA):aN:=.region r
abbrev aB(a b:aN):aN:=.seq a b
def aC{l m:List aA}{p:Prop}(h:l=m)(g:p):(∀(T:aM) (K:List Kt) (fr:Fr) (S:St),aF T (.ops l::K) fr S=aF T (.ops m::K) fr S)∧p:=⟨aP h,g⟩
abbrev V(n:Nat):aG:=.tmp n
abbrev I(n:Int):aG:=.cst (.int .i64 n)
abbrev cN:aG:=.cst (.bool true)
abbrev bO:aG:=.cst (.bool false)
abbrev Q(d:Nat)(op:bC):aA:=⟨some d,op,none⟩
abbrev QN(op:bC):aA:=⟨none,op,none⟩
abbrev QG(d:Option Nat)(op:bC)(t:Nat)(b:Bool):aA:=⟨d,op,some (t,b)⟩
abbrev M(d s:Nat):aA:=⟨some d,.mov (.tmp s),none⟩
abbrev bL(d s:Nat):aA:=⟨some d,.nilck (.tmp s),none⟩
abbrev FA(d k s:Nat):aA:=⟨some d,.faddr k (.tmp s),none⟩
abbrev LD(d s:Nat):aA:=⟨some d,.load false 1 false (.tmp s),none⟩
abbrev EX(d k s:Nat):aA:=⟨some d,.extract k (.tmp s),none⟩
@[simp]def aGW:PV.und.cells=[PV.und]:=rfl
@[simp]def aGX:PV.und.one=false:=rfl
@[simp]def Py(k:IntKind)(n:Int):(PV.int k n).cells=[(PV.int k n)]:=rfl
@[simp]def aGY(k:IntKind)(n:Int):(PV.int k n).one=true:=rfl
@[simp]def aGZ(b:Bool):(PV.bool b).cells=[(PV.bool b)]:=rfl
@[simp]def aG0(b:Bool):(PV.bool b).one=true:=rfl
@[simp]def aG1(s:List UInt8):(PV.str s).cells=[(PV.str s)]:=rfl
@[simp]def aG2(s:List UInt8):(PV.str s).one=true:=rfl
@[simp]def aG3:PV.nilp.cells=[PV.nilp]:=rfl
@[simp]def aG4:PV.nilp.one=true:=rfl
@[simp]def aG5:PV.nils.cells=[PV.nils]:=rfl
@[simp]def aG6:PV.nils.one=true:=rfl
@[simp]def aG7:PV.nili.cells=[PV.nili]:=rfl
@[simp]def aG8:PV.nili.one=true:=rfl
@[simp]def aG9:PV.nilf.cells=[PV.nilf]:=rfl
@[simp]def aHa:PV.nilf.one=true:=rfl
@[simp]def aHb(i o:Nat):(PV.ptr i o).cells=[(PV.ptr i o)]:=rfl
@[simp]def aHc(i o:Nat):(PV.ptr i o).one=true:=rfl
@[simp]def aHd(cs:List PV):(PV.ref cs).cells=[(PV.ref cs)]:=rfl
@[simp]def aHe(cs:List PV):(PV.ref cs).one=true:=rfl
@[simp]def aHf(t:Option (Nat×Nat))(a b:List PV):(PV.sl t a b).cells=[(PV.sl t a b)]:=rfl
@[simp]def aHg(t:Option (Nat×Nat))(a b:List PV):(PV.sl t a b).one=true:=rfl
@[simp]def aHh(i o n s:Nat):(PV.osl i o n s).cells=[(PV.osl i o n s)]:=rfl
@[simp]def aHi(i o n s:Nat):(PV.osl i o n s).one=true:=rfl
@[simp]def aHj:PV.emp.cells=[PV.emp]:=rfl
@[simp]def aHk:PV.emp.one=true:=rfl
@[simp]def aHl(t:Nat)(v:PV):(PV.iface t v).cells=[(PV.iface t v)]:=rfl
@[simp]def aHm(t:Nat)(v:PV):(PV.iface t v).one=true:=rfl
@[simp]def aHn(cs:List PV):(PV.agg cs).cells=cs:=rfl
@[simp]def aHo(cs:List PV):(PV.agg cs).one=false:=rfl
@[simp]def aHp(cs:List PV):(PV.tup cs).cells=[(PV.tup cs)]:=rfl
@[simp]def aHq(cs:List PV):(PV.tup cs).one=false:=rfl
@[simp]def aHr(f:Nat)(cs:List PV):(PV.fn f cs).cells=[(PV.fn f cs)]:=rfl
@[simp]def aHs(f:Nat)(cs:List PV):(PV.fn f cs).one=true:=rfl
@[simp]def aHt:PV.nilm.cells=[PV.nilm]:=rfl
@[simp]def aHu:PV.nilm.one=true:=rfl
@[simp]def aHv(i:Nat):(PV.hnd i).cells=[(PV.hnd i)]:=rfl
@[simp]def aHw(i:Nat):(PV.hnd i).one=true:=rfl
@[simp]def aHx(i:Nat):(PV.map i).cells=[(PV.map i)]:=rfl
@[simp]def aHy(i:Nat):(PV.map i).one=true:=rfl
@[simp]def aHz(f:Nat)(cs:List PV):(PV.bfn f cs).cells=[(PV.bfn f cs)]:=rfl
@[simp]def aHA(f:Nat)(cs:List PV):(PV.bfn f cs).one=true:=rfl
attribute [simp] PV.free PV.freeL PV.frz PV.frzL
mutual
theorem Pz:∀v:PV,PV.beq v v=true
 |.und=>rfl
 |.int k n=>by simp[PV.beq]
 |.bool b=>by simp[PV.beq]
 |.str s=>by simp[PV.beq]
 |.nilp=>rfl
 |.nils=>rfl
 |.nili=>rfl
 |.nilf=>rfl
 |.ptr i o=>by simp[PV.beq]
 |.ref cs=>by simp[PV.beq,kH cs]
 |.sl t a b=>by simp[PV.beq,kH a,kH b]
 |.osl i o n s=>by simp[PV.beq]
 |.emp=>rfl
 |.iface t v=>by simp[PV.beq,Pz v]
 |.agg cs=>by simp[PV.beq,kH cs]
 |.tup cs=>by simp[PV.beq,kH cs]
 |.fn f cs=>by simp[PV.beq,kH cs]
 |.nilm=>rfl
 |.map i=>by simp[PV.beq]
 |.hnd i=>by simp[PV.beq]
 |.bfn f cs=>by simp[PV.beq,kH cs]
theorem kH:∀l:List PV,PV.beqL l l=true
 | []=>rfl
 |v::l=>by simp[PV.beqL,Pz v,kH l]
end
theorem yw:∀l:List (List PV),PV.beqLL l l=true
 | []=>rfl
 |v::l=>by simp[PV.beqLL,kH v,yw l]
def ob{α β:Type}:Option α→(α→Option β)→Option β
 |some x,f=>f x
 |none,_=>none
@[simp]def oK{α β:Type}(x:α)(f:α→Option β):ob (some x) f=f x:=rfl
@[simp]def aHB{α β:Type}(f:α→Option β):ob none f=none:=rfl
@[congr]def aHC{α β:Type}{a a':Option α}{f:α→Option β}(h:a=a'):ob a f=ob a' f:=by rw[h]
@[congr]def aHD{T:aM}{K:List Kt}{fr fr':Fr}{S S':St}(h1:fr=fr')(h2:S=S'):aF T K fr S=aF T K fr' S':=by rw[h1,h2]
@[congr]def aHE{α:Type}{v v':PV}{a b:Option α}(h:v=v'):br v a b=br v' a b:=by rw[h]
@[congr]def aHF{α:Type}{v v':PV}{c:Bool}{a b:Option α}(h:v=v'):fC v c a b=fC v' c a b:=by rw[h]
@[simp]def aHG(fr:Fr)(d:Nat)(v:PV)(t:Nat):upd fr d v t=cond (t==d) v (fr t):=rfl
@[simp]def aHH(fr:Fr):clrs [] fr=fr:=rfl
@[simp]def aHI(a b:Nat)(l:List (Nat×Nat))(fr:Fr):clrs ((a,b)::l) fr=clrs l (eM a b fr):=rfl
@[simp]def aHJ(lo hi t:Nat):gC lo hi t=((lo-t==0)&&(t+1-hi==0)):=rfl
@[simp]def aHK(lo hi:Nat)(fr:Fr)(t:Nat):eM lo hi fr t=cond (gC lo hi t) .und (fr t):=rfl
def QA(lo hi:Nat)(fr:Fr)(d:Nat)(v:PV):eM lo hi (upd fr d v)=cond (gC lo hi d) (eM lo hi fr) (upd (eM lo hi fr) d v):=by
 funext t
 cases h:(gC lo hi d)with
 |true=>
  simp only[cond_true,eM,upd]
  cases h2:(gC lo hi t)with
  |true=>rfl
  |false=>
   have:(t==d)=false:=by
    rw[oL];intro e;rw[beq_iff_eq]at e;subst e;rw[h]at h2;cases h2
   simp[this]
 |false=>
  simp only[cond_false,eM,upd]
  cases h2:(gC lo hi t)with
  |true=>
   have:(t==d)=false:=by
    rw[oL];intro e;rw[beq_iff_eq]at e;subst e;rw[h]at h2;cases h2
   simp[this]
  |false=>simp
@[simp]def aHL(lo hi:Nat)(fr:Fr)(d:Nat)(v:PV)(h:(gC lo hi d)=true):eM lo hi (upd fr d v)=eM lo hi fr:=by rw[QA,h];rfl
@[simp]def aHM(lo hi:Nat)(fr:Fr)(d:Nat)(v:PV)(h:(gC lo hi d)=false):eM lo hi (upd fr d v)=upd (eM lo hi fr) d v:=by rw[QA,h];rfl
@[simp]def aHN(lo hi:Nat)(fr:Fr):eM lo hi (eM lo hi fr)=eM lo hi fr:=by
 funext t;simp only[eM];cases(gC lo hi t)<;>rfl
@[simp]def aHO(fr:Fr)(d:Nat)(v:PV):aO fr (some d) v=upd fr d v:=rfl
@[simp]def aHP(fr:Fr)(v:PV):aO fr none v=fr:=rfl
@[simp]def aHQ(fr:Fr)(t:Nat):ev fr (.tmp t)=fr t:=rfl
@[simp]def aHR(fr:Fr)(v:PV):ev fr (.cst v)=v:=rfl
@[simp]def aHS(fr:Fr):bj fr none=none:=rfl
@[simp]def aHT(fr:Fr)(x:aG):bj fr (some x)=some (ev fr x):=rfl
attribute [simp] xC VV VW VX Mz VY VZ Va Ve Vb Vc Vd xD Vh Vf Vg fB
def aCX{α:Type}{a b:Option α}{c d:Bool}:fC (.bool c) d a b=if c=d then a else b:=by cases c<;>cases d<;>rfl
@[simp]def aHU{α:Type}{a b:Option α}{c:Bool}:fC (.bool c) true a b=br (.bool c) a b:=by cases c<;>rfl
@[simp]def aHV{α:Type}{a b:Option α}{c:Bool}:fC (.bool c) false a b=br (.bool c) b a:=by cases c<;>rfl
@[simp]def aHW{α:Type}{a b:Option α}{d:Bool}:fC (.tup []) d a b=b:=rfl
def fU:PV→Option PV
 |.ptr i o=>some (.ptr i o)
 |.ref cs=>some (.ref cs)
 |.iface t v=>some (.iface t v)
 |.fn f cs=>some (.fn f cs)
 |.bfn f cs=>some (.bfn f cs)
 |_=>none
def eD(neg isb:Bool)(n:Nat):PV→PV→Option PV
 |.agg a,.agg b=>if a.length=n∧b.length=n then(match dR isb a b with|some r=>some (fe neg r)|none=>none)else none
 |_,_=>none
def gY(k:IntKind):PV→Option PV
 |.int _ n=>some (.int k (k.wrap n))
 |_=>none
def ib:PV→Option PV
 |.str s=>some (.str s)
 |_=>none
def ic(ag:Bool)(off n:Nat):PV→Option PV
 |.agg cs=>ap ag n (cs.drop off)
 |_=>none
def gZ(i:Nat):PV→Option PV
 |.tup vs=>vs[i]?
 |_=>none
def gG(t:Nat)(ok:Bool)(z:PV):PV→Option PV
 |.nili=>if ok then some (.tup [z,.bool false])else none
 |.iface u v=>if u=t then some (if ok then .tup [v,.bool true]else v)else(if ok then some (.tup [z,.bool false])else none)
 |_=>none
def dZ:PV→PV→Option PV
 |.str s,.int _ j=>if 0≤j then(match s[j.toNat]? with|some b=>some (.int .u8 b.toNat)|none=>none)else none
 |_,_=>none
def eE(len n:Nat)(ag:Bool):PV→PV→Option PV
 |.agg cs,.int _ j=>if 0≤j∧j<len then ap ag n (cs.drop (j.toNat*n))else none
 |_,_=>none
def ig(lo hi:Option PV):PV→Option PV
 |.str s=>match cC s.length s.length lo hi with
  |some (l,h)=>some (.str ((s.take h).drop l))
  |none=>none
 |_=>none
def dk(sz:Nat)(lo hi:Option PV):PV→Option PV
 |.nils=>match cC 0 0 lo hi with|some _=>some .nils|none=>none
 |.sl tip es sp=>if !gS sz (es++sp)then none else match cC es.length (es.length+sp.length) lo hi with
  |some (l,h)=>some (.sl (if h=es.length then tip else none) (((es++sp).take h).drop l) ((es++sp).drop h))
  |none=>none
 |.osl id off len sz'=>if sz'=sz∧0<sz then(match cC len len lo hi with
  |some (l,h)=>if l=0∨l<h then some (.osl id (off+l*sz) (h-l) sz)else none
  |none=>none)else none
 |.emp=>match cC 0 0 lo hi with|some _=>some .emp|none=>none
 |_=>none
def aCY(len sz:Nat)(lo hi:Option PV):PV→Option PV
 |.ptr id off=>match cC len len lo hi with
  |some (l,h)=>if l<h then some (.osl id (off+l*sz) (h-l) 0)else none
  |none=>none
 |.ref cs=>if sz=1∧cs.length=len∧cs.all PV.one=true then(match cC len len lo hi with
  |some (l,h)=>if l<h then some (.sl none ((cs.take h).drop l) (cs.drop h))else none
  |none=>none)else none
 |_=>none
def gH(off:Nat):PV→Option PV
 |.ptr id o=>some (.ptr id (o+off))
 |.ref cs=>if off≤cs.length then some (.ref (cs.drop off))else none
 |_=>none
def cb(sz:Nat):PV→PV→Option PV
 |.sl _ es _,.int _ j=>if 0≤j then(match es[j.toNat]? with|some e=>if e.cells.length=sz then some (.ref e.cells)else none|none=>none)else none
 |.osl id off n _,.int _ j=>if 0≤j∧j<n then some (.ptr id (off+j.toNat*sz))else none
 |_,_=>none
def da(len sz:Nat):PV→PV→Option PV
 |.ptr id off,.int _ j=>if 0≤j∧j<len then some (.ptr id (off+j.toNat*sz))else none
 |.ref cs,.int _ j=>if 0≤j∧j<len∧j.toNat*sz≤cs.length then some (.ref (cs.drop (j.toNat*sz)))else none
 |_,_=>none
def dl(st:Bool):PV→Option PV
 |.str s=>if st then some (.int .i64 s.length)else none
 |.nils=>if st then none else some (.int .i64 0)
 |.sl _ es _=>if st then none else some (.int .i64 es.length)
 |.osl _ _ n _=>if st then none else some (.int .i64 n)
 |.emp=>if st then none else some (.int .i64 0)
 |_=>none
def db(mx:Bool):PV→PV→Option PV
 |.int k a,.int l b=>if k=l then some (.int k (if mx then(if b>a then b else a)else(if b<a then b else a)))else none
 |_,_=>none
@[simp]def aHX{i o:Nat}:fU (.ptr i o)=some (.ptr i o):=rfl
@[simp]def aHY{cs:List PV}:fU (.ref cs)=some (.ref cs):=rfl
@[simp]def aHZ{t:Nat}{v:PV}:fU (.iface t v)=some (.iface t v):=rfl
@[simp]def aH0{f:Nat}{cs:List PV}:fU (.fn f cs)=some (.fn f cs):=rfl
def yx(neg:Bool)(n:Nat):PV→PV→Option PV
 |.agg a,.agg b=>if a.length=n∧b.length=n then(match dR false a b with|some r=>some (fe neg r)|none=>none)else none
 |_,_=>none
@[simp]def aH1{neg:Bool}{n:Nat}{a b:List PV}:yx neg n (.agg a) (.agg b)=if a.length=n∧b.length=n then(match dR false a b with|some r=>some (fe neg r)|none=>none)else none:=rfl
@[simp]def aH2{neg isb:Bool}{n:Nat}{a b:List PV}:eD neg isb n (.agg a) (.agg b)=if a.length=n∧b.length=n then(match dR isb a b with|some r=>some (fe neg r)|none=>none)else none:=rfl
@[simp]def aH3{k l:IntKind}{n:Int}:gY k (.int l n)=some (.int k (k.wrap n)):=rfl
@[simp]def aH4{s:List UInt8}:ib (.str s)=some (.str s):=rfl
@[simp]def aH5{ag:Bool}{off n:Nat}{cs:List PV}:ic ag off n (.agg cs)=ap ag n (cs.drop off):=rfl
@[simp]def aH6{i:Nat}{vs:List PV}:gZ i (.tup vs)=vs[i]?:=rfl
@[simp]def aH7{t:Nat}{ok:Bool}{z:PV}:gG t ok z .nili=if ok then some (.tup [z,.bool false])else none:=rfl
@[simp]def aH8{t u:Nat}{ok:Bool}{z v:PV}:gG t ok z (.iface u v)=if u=t then some (if ok then .tup [v,.bool true]else v)else(if ok then some (.tup [z,.bool false])else none):=rfl
@[simp]def QB{s:List UInt8}{k:IntKind}{j:Int}:dZ (.str s) (.int k j)=if 0≤j then(match s[j.toNat]? with|some b=>some (.int .u8 b.toNat)|none=>none)else none:=rfl
@[simp]def aH9{len n:Nat}{ag:Bool}{cs:List PV}{k:IntKind}{j:Int}:eE len n ag (.agg cs) (.int k j)=if 0≤j∧j<len then ap ag n (cs.drop (j.toNat*n))else none:=rfl
@[simp]def aIa{lo hi:Option PV}{s:List UInt8}:ig lo hi (.str s)=match cC s.length s.length lo hi with|some (l,h)=>some (.str ((s.take h).drop l))|none=>none:=rfl
@[simp]def tL{sz:Nat}{lo hi:Option PV}:dk sz lo hi .nils=match cC 0 0 lo hi with|some _=>some .nils|none=>none:=rfl
@[simp]def tM{sz:Nat}{lo hi:Option PV}{tip:Option (Nat×Nat)}{es sp:List PV}:dk sz lo hi (.sl tip es sp)=if !gS sz (es++sp)then none else match cC es.length (es.length+sp.length) lo hi with
   |some (l,h)=>some (.sl (if h=es.length then tip else none) (((es++sp).take h).drop l) ((es++sp).drop h))
   |none=>none:=rfl
@[simp]def aIb{len sz:Nat}{lo hi:Option PV}{id off:Nat}:aCY len sz lo hi (.ptr id off)=match cC len len lo hi with|some (l,h)=>if l<h then some (.osl id (off+l*sz) (h-l) 0)else none|none=>none:=rfl
@[simp]def aIc{sz:Nat}{lo hi:Option PV}{id off len:Nat}:dk sz lo hi (.osl id off len sz)=if 0<sz then(match cC len len lo hi with
  |some (l,h)=>if l=0∨l<h then some (.osl id (off+l*sz) (h-l) sz)else none
  |none=>none)else none:=by simp[dk]
@[simp]def aId{sz:Nat}{lo hi:Option PV}:dk sz lo hi .emp=match cC 0 0 lo hi with|some _=>some .emp|none=>none:=rfl
def tN:PV→Option PV
 |.nils=>some .nils
 |.sl ..=>some .emp
 |.osl ..=>some .emp
 |.emp=>some .emp
 |_=>none
@[simp]def aIe:tN .nils=some .nils:=rfl
@[simp]def aIf{t:Option (Nat×Nat)}{a b:List PV}:tN (.sl t a b)=some .emp:=rfl
@[simp]def aIg{i o n s:Nat}:tN (.osl i o n s)=some .emp:=rfl
@[simp]def aIh:tN .emp=some .emp:=rfl
@[simp]def aIi{off id o:Nat}:gH off (.ptr id o)=some (.ptr id (o+off)):=rfl
@[simp]def aIj{off:Nat}{cs:List PV}:gH off (.ref cs)=if off≤cs.length then some (.ref (cs.drop off))else none:=rfl
@[simp]def aIk{sz:Nat}{tip:Option (Nat×Nat)}{es sp:List PV}{k:IntKind}{j:Int}:cb sz (.sl tip es sp) (.int k j)=if 0≤j then(match es[j.toNat]? with|some e=>if e.cells.length=sz then some (.ref e.cells)else none|none=>none)else none:=rfl
@[simp]def QC{sz id off n s:Nat}{k:IntKind}{j:Int}:cb sz (.osl id off n s) (.int k j)=if 0≤j∧j<n then some (.ptr id (off+j.toNat*sz))else none:=rfl
@[simp]def aIl{len sz id off:Nat}{k:IntKind}{j:Int}:da len sz (.ptr id off) (.int k j)=if 0≤j∧j<len then some (.ptr id (off+j.toNat*sz))else none:=rfl
@[simp]def aIm{len sz:Nat}{cs:List PV}{k:IntKind}{j:Int}:da len sz (.ref cs) (.int k j)=if 0≤j∧j<len∧j.toNat*sz≤cs.length then some (.ref (cs.drop (j.toNat*sz)))else none:=rfl
@[simp]def aIn{s:List UInt8}:dl true (.str s)=some (.int .i64 s.length):=rfl
@[simp]def aIo:dl false .nils=some (.int .i64 0):=rfl
@[simp]def aIp{tip:Option (Nat×Nat)}{es sp:List PV}:dl false (.sl tip es sp)=some (.int .i64 es.length):=rfl
@[simp]def aIq{id off n s:Nat}:dl false (.osl id off n s)=some (.int .i64 n):=rfl
@[simp]def aIr:dl false .emp=some (.int .i64 0):=rfl
@[simp]def aIs{mx:Bool}{k:IntKind}{a b:Int}:db mx (.int k a) (.int k b)=some (.int k (if mx then(if b>a then b else a)else(if b<a then b else a))):=by simp[db]
def QD(fr:Fr)(st:Bool)(x:aG):aQ fr (.len st x)=dl st (ev fr x):=by
 cases st<;>simp only[aQ]<;>cases ev fr x<;>rfl
section
variable {T : aM} {K : List Kt} {fr : Fr} {S : St} {d : Option Nat} {l : List aA}
def QE{op:bC}:aF T (.ops (⟨d,op,none⟩::l)::K) fr S=ob (bf T fr S op) fun x=>aF T (.ops l::K) (aO fr d x.1) x.2:=by
 rw[xE];cases bf T fr S op<;>rfl
def dc{op:bC}{q:Option PV}(h:bf T fr S op=ck S q):aF T (.ops (⟨d,op,none⟩::l)::K) fr S=ob q fun v=>aF T (.ops l::K) (aO fr d v) S:=by
 rw[QE,h];cases q<;>rfl
@[simp]def aIt {x:aG}:aF T (.ops (⟨d,.mov x,none⟩::l)::K) fr S=aF T (.ops l::K) (aO fr d (ev fr x)) S:=dc (q:=some (ev fr x)) rfl
@[simp]def aIu {t:Nat} {x:aG}:aF T (.ops (⟨d,.mkif t x,none⟩::l)::K) fr S=aF T (.ops l::K) (aO fr d (.iface t (ev fr x))) S:=dc (q:=some (.iface t (ev fr x))) rfl
@[simp]def aIv {f:Nat} {caps:List aG}:aF T (.ops (⟨d,.mkfn f caps,none⟩::l)::K) fr S=aF T (.ops l::K) (aO fr d (.fn f (caps.map (ev fr)))) S:=dc (q:=some (.fn f (caps.map (ev fr)))) rfl
def bZ(c a b:PV):Option PV:=match c with|.bool true=>some a|.bool false=>some b|_=>none
@[simp]def aIw{c a b:aG}:aF T (.ops (⟨d,.pick c a b,none⟩::l)::K) fr S=ob (bZ (ev fr c) (ev fr a) (ev fr b)) fun v=>aF T (.ops l::K) (aO fr d v) S:=dc rfl
@[simp]def aIx{o:BinOp}{x y:aG}:aF T (.ops (⟨d,.arith o x y,none⟩::l)::K) fr S=ob (arith o (ev fr x) (ev fr y)) fun v=>aF T (.ops l::K) (aO fr d v) S:=dc rfl
@[simp]def aIy{o:UnOp}{x:aG}:aF T (.ops (⟨d,.un o x,none⟩::l)::K) fr S=ob (unOp o (ev fr x)) fun v=>aF T (.ops l::K) (aO fr d v) S:=dc rfl
def eF(neg:Bool)(a b:PV):Option PV:=match a,b with|.bool a,.bool b=>some (fe neg (a==b))|_,_=>none
@[simp]def aIz{neg a b:Bool}:eF neg (.bool a) (.bool b)=some (fe neg (a==b)):=rfl
@[simp]def aIA{b:Bool}:fe false b=.bool b:=rfl
@[simp]def aIB{b:Bool}:fe true b=.bool !b:=rfl
def fH(neg:Bool)(k:NK)(a:PV):Option PV:=match isNil k a with|some b=>some (fe neg b)|none=>none
@[simp]def aIC{neg:Bool}{k:NK}{x:aG}:aF T (.ops (⟨d,.eqn neg k x,none⟩::l)::K) fr S=ob (fH neg k (ev fr x)) fun v=>aF T (.ops l::K) (aO fr d v) S:=dc rfl
def yy{op:bC}(h:bf T fr S op=ck S (aQ fr op)):aF T (.ops (⟨d,op,none⟩::l)::K) fr S=ob (aQ fr op) fun v=>aF T (.ops l::K) (aO fr d v) S:=dc h
def fI:PV→Option PV
 |.nils=>some (.str [])
 |.emp=>some (.str [])
 |.sl _ es _=>match jE es with|some s=>some (.str s)|none=>none
 |_=>none
@[simp]def aID{x:aG}:aF T (.ops (⟨d,.nilck x,none⟩::l)::K) fr S=ob (fU (ev fr x)) fun v=>aF T (.ops l::K) (aO fr d v) S:=dc (by simp only[bf,aH,aQ];rfl)
@[simp]def aIE{neg:Bool}{n:Nat}{x y:aG}:aF T (.ops (⟨d,.eqs neg n x y,none⟩::l)::K) fr S=ob (yx neg n (ev fr x) (ev fr y)) fun v=>aF T (.ops l::K) (aO fr d v) S:=dc (by simp only[bf,aH,aQ];rfl)
@[simp]def aIF{k:IntKind}{x:aG}:aF T (.ops (⟨d,.toInt k x,none⟩::l)::K) fr S=ob (gY k (ev fr x)) fun v=>aF T (.ops l::K) (aO fr d v) S:=dc (by simp only[bf,aH,aQ];rfl)
@[simp]def aIG{x:aG}:aF T (.ops (⟨d,.toStr x,none⟩::l)::K) fr S=ob (fI (ev fr x)) fun v=>aF T (.ops l::K) (aO fr d v) S:=yy rfl
@[simp]def aIH{z:List PV}{ps:List (Nat×Nat×aG)}:aF T (.ops (⟨d,.build z ps,none⟩::l)::K) fr S=ob (aQ fr (.build z ps)) fun v=>aF T (.ops l::K) (aO fr d v) S:=yy rfl
@[simp]def aII{i:Nat}{x:aG}:aF T (.ops (⟨d,.extract i x,none⟩::l)::K) fr S=ob (gZ i (ev fr x)) fun v=>aF T (.ops l::K) (aO fr d v) S:=dc (by simp only[bf,aH,aQ];rfl)
@[simp]def aIJ{t:Nat}{ok:Bool}{z:PV}{x:aG}:aF T (.ops (⟨d,.assert t ok z x,none⟩::l)::K) fr S=ob (gG t ok z (ev fr x)) fun v=>aF T (.ops l::K) (aO fr d v) S:=dc (by simp only[bf,aH,aQ];rfl)
@[simp]def aIK{x i:aG}:aF T (.ops (⟨d,.idxs x i,none⟩::l)::K) fr S=ob (dZ (ev fr x) (ev fr i)) fun v=>aF T (.ops l::K) (aO fr d v) S:=dc (by simp only[bf,aH,aQ];rfl)
@[simp]def aIL{sz:Nat}{lo hi:Option aG}{x:aG}:aF T (.ops (⟨d,.slc sz lo hi x,none⟩::l)::K) fr S=ob (dk sz (bj fr lo) (bj fr hi) (ev fr x)) fun v=>aF T (.ops l::K) (aO fr d v) S:=dc (by simp only[bf,aH,aQ];rfl)
@[simp]def aIM{off:Nat}{x:aG}:aF T (.ops (⟨d,.faddr off x,none⟩::l)::K) fr S=ob (gH off (ev fr x)) fun v=>aF T (.ops l::K) (aO fr d v) S:=dc (by simp only[bf,aH,aQ];rfl)
@[simp]def aIN{sz:Nat}{x i:aG}:aF T (.ops (⟨d,.iaddr sz x i,none⟩::l)::K) fr S=ob (cb sz (ev fr x) (ev fr i)) fun v=>aF T (.ops l::K) (aO fr d v) S:=dc (by simp only[bf,aH,aQ];rfl)
@[simp]def aIO{len sz:Nat}{x i:aG}:aF T (.ops (⟨d,.iaddra len sz x i,none⟩::l)::K) fr S=ob (da len sz (ev fr x) (ev fr i)) fun v=>aF T (.ops l::K) (aO fr d v) S:=dc (by simp only[bf,aH,aQ];rfl)
@[simp]def aIP {st:Bool} {x:aG}:aF T (.ops (⟨d,.len st x,none⟩::l)::K) fr S=ob (dl st (ev fr x)) fun v=>aF T (.ops l::K) (aO fr d v) S:=dc (by have h:bf T fr S (.len st x)=ck S (aQ fr (.len st x)):=by {cases st<;>rfl};rw[h,QD])
@[simp]def aIQ{mx:Bool}{x y:aG}:aF T (.ops (⟨d,.mnmx mx x y,none⟩::l)::K) fr S=ob (db mx (ev fr x) (ev fr y)) fun v=>aF T (.ops l::K) (aO fr d v) S:=dc (by simp only[bf,aH,aQ];rfl)
def cO(S:St)(ag:Bool)(n:Nat):PV→Option PV
 |.ref cs=>ap ag n cs
 |.ptr id off=>match S.objs[id]? with|some cs=>ap ag n (cs.drop off)|none=>none
 |_=>none
@[simp]def aIR{ag:Bool}{n:Nat}{mix:Bool}{x:aG}:aF T (.ops (⟨d,.load ag n mix x,none⟩::l)::K) fr S=ob (if mix then(match ev fr x with|.ref cs=>ap ag n cs|_=>none)else cO S ag n (ev fr x)) fun v=>aF T (.ops l::K) (aO fr d v) S:=by
 cases mix
 ·refine dc ?_;simp only[bf,aH,bg,if_false];cases ev fr x<;>simp only[cO]<;>try rfl
  case ptr id off=>
   cases h:S.objs[id]? with
   |none=>rfl
   |some cs=>cases h2:ap ag n (cs.drop off)<;>simp[h2,ck]
 ·exact yy rfl
def yz(S:St)(ag:Bool)(n:Nat):PV→PV→Option PV
 |.ptr i _,.ptr id off=>if i=id then cO S ag n (.ptr id off)else none
 |_,_=>none
@[simp]def aIS{S:St}{ag:Bool}{n i o off:Nat}:yz S ag n (.ptr i o) (.ptr i off)=cO S ag n (.ptr i off):=if_pos rfl
@[simp]def aIT{b:Nat}{ag:Bool}{n:Nat}{x:aG}:aF T (.ops (⟨d,.loadb b ag n x,none⟩::l)::K) fr S=ob (yz S ag n (fr b) (ev fr x)) fun v=>aF T (.ops l::K) (aO fr d v) S:=by
 refine dc ?_;simp only[bf,aH];cases fr b<;>cases ev fr x<;>simp only[yz]<;>try rfl
 rename_i i o id off;by_cases hi:i=id
 ·subst hi;simp only[if_true,cO]
  cases h:S.objs[i]? with
  |none=>rfl
  |some cs=>cases h2:ap ag n (cs.drop off)<;>simp[h2,ck]
 ·simp only[if_neg hi];rfl
def eZ{op:bC}{q:Option (PV×St)}(h:bf T fr S op=q):aF T (.ops (⟨d,op,none⟩::l)::K) fr S=ob q fun x=>aF T (.ops l::K) (aO fr d x.1) x.2:=by rw[QE,h]
@[simp]def aIU{n:Nat}{a v:aG}:aF T (.ops (⟨d,.store n a v,none⟩::l)::K) fr S=ob (aH T (aS T) fr S (.store n a v)) fun x=>aF T (.ops l::K) (aO fr d x.1) x.2:=eZ rfl
@[simp]def aIV{ro:Bool}{x:aG}:aF T (.ops (⟨d,.box ro x,none⟩::l)::K) fr S=ob (aH T (aS T) fr S (.box ro x)) fun x=>aF T (.ops l::K) (aO fr d x.1) x.2:=eZ rfl
@[simp]def aIW{ro:Bool}{z:List PV}:aF T (.ops (⟨d,.alloc ro z,none⟩::l)::K) fr S=ob (aH T (aS T) fr S (.alloc ro z)) fun x=>aF T (.ops l::K) (aO fr d x.1) x.2:=eZ rfl
@[simp]def aIX{ro:Bool}{ze:PV}{n:Nat}{ps:List (Nat×aG)}:aF T (.ops (⟨d,.bsl ro ze n ps,none⟩::l)::K) fr S=ob (aH T (aS T) fr S (.bsl ro ze n ps)) fun x=>aF T (.ops l::K) (aO fr d x.1) x.2:=eZ rfl
@[simp]def aIY{sz b:Nat}{c:aG}:aF T (.ops (⟨d,.mks sz b c,none⟩::l)::K) fr S=ob (aH T (aS T) fr S (.mks sz b c)) fun x=>aF T (.ops l::K) (aO fr d x.1) x.2:=eZ rfl
def zA(sz bytes:Nat)(S:St)(s x:PV):Option (PV×St):=ob (dS S sz x) fun new=>if 0<sz then dT sz bytes S s new else none
@[simp]def aIZ{S:St}{sz:Nat}:dS S sz .nils=some []:=rfl
@[simp]def aI0{S:St}{sz:Nat}:dS S sz .emp=some []:=rfl
@[simp]def aCZ{S:St}{sz:Nat}{tip:Option (Nat×Nat)}{es sp:List PV}:dS S sz (.sl tip es sp)=if gS sz es then some es else none:=rfl
@[simp]def aI1{S:St}{sz:Nat}{s:List UInt8}:dS S sz (.str s)=if sz=1 then some (aJ s)else none:=rfl
def zB(sz bytes:Nat)(S:St)(s x:PV):Option (PV×St):=ob (dS S sz x) fun new=>if 0<sz then gD sz bytes S s new else none
@[simp]def aI2{sz:Nat}:jl sz .nils=some []:=rfl
@[simp]def aC0{sz:Nat}{tip:Option (Nat×Nat)}{es sp:List PV}:jl sz (.sl tip es sp)=if gS sz es then some es else none:=rfl
@[simp]def aI3{sz:Nat}{s:List UInt8}:jl sz (.str s)=if sz=1 then some (aJ s)else none:=rfl
@[simp]def aI4{sz:Nat}:gS sz []=true:=rfl
@[simp]def aI5{sz:Nat}{e:PV}{l:List PV}:gS sz (e::l)=(e.cells.length==sz):=rfl
@[simp]def aI6{sz bytes:Nat}{S:St}{s x:PV}:zA sz bytes S s x=ob (dS S sz x) fun new=>if 0<sz then dT sz bytes S s new else none:=rfl
@[simp]def aI7{sz bytes:Nat}{S:St}{s x:PV}:zB sz bytes S s x=ob (dS S sz x) fun new=>if 0<sz then gD sz bytes S s new else none:=rfl
@[simp]def aI8:aF T (.ops (⟨d,.mkm,none⟩::l)::K) fr S=ob (aH T (aS T) fr S .mkm) fun x=>aF T (.ops l::K) (aO fr d x.1) x.2:=eZ rfl
@[simp]def aI9{ks:Bool}{ok:Bool}{z:PV}{x k:aG}:aF T (.ops (⟨d,.mlk ks ok z x k,none⟩::l)::K) fr S=ob (aH T (aS T) fr S (.mlk ks ok z x k)) fun x=>aF T (.ops l::K) (aO fr d x.1) x.2:=eZ rfl
@[simp]def aJa{ks:Bool}{x k v:aG}:aF T (.ops (⟨d,.mset ks x k v,none⟩::l)::K) fr S=ob (aH T (aS T) fr S (.mset ks x k v)) fun x=>aF T (.ops l::K) (aO fr d x.1) x.2:=eZ rfl
@[simp]def aJb{ls:List Nat}{ks:Bool}{x k v:aG}:aF T (.ops (⟨d,.msb ls ks x k v,none⟩::l)::K) fr S=ob (aH T (aS T) fr S (.msb ls ks x k v)) fun x=>aF T (.ops l::K) (aO fr d x.1) x.2:=eZ rfl
@[simp]def aJc{ls:List Nat}{x:aG}:aF T (.ops (⟨d,.asrI ls x,none⟩::l)::K) fr S=ob (aQ fr (.asrI ls x)) fun v=>aF T (.ops l::K) (aO fr d v) S:=dc (by simp only[bf,aH])
@[simp]def aJd{sz bytes:Nat}{z:List PV}{c:aG}:aF T (.ops (⟨d,.mko sz bytes z c,none⟩::l)::K) fr S=ob (aH T (aS T) fr S (.mko sz bytes z c)) fun x=>aF T (.ops l::K) (aO fr d x.1) x.2:=eZ rfl
@[simp]def aJe{n:Nat}{x:aG}:aF T (.ops (⟨d,.nst n x,none⟩::l)::K) fr S=ob (aH T (aS T) fr S (.nst n x)) fun x=>aF T (.ops l::K) (aO fr d x.1) x.2:=eZ rfl
@[simp]def aJf{z:PV}{x k:aG}:aF T (.ops (⟨d,.men z x k,none⟩::l)::K) fr S=ob (aH T (aS T) fr S (.men z x k)) fun x=>aF T (.ops l::K) (aO fr d x.1) x.2:=eZ rfl
@[simp]def aJg{x k v:aG}:aF T (.ops (⟨d,.est x k v,none⟩::l)::K) fr S=ob (aH T (aS T) fr S (.est x k v)) fun x=>aF T (.ops l::K) (aO fr d x.1) x.2:=eZ rfl
@[simp]def aJh{f:Nat}{xs:List aG}:aF T (.ops (⟨d,.mkbfn f xs,none⟩::l)::K) fr S=ob (aH T (aS T) fr S (.mkbfn f xs)) fun x=>aF T (.ops l::K) (aO fr d x.1) x.2:=eZ rfl
@[simp]def aJi{sz b:Nat}{s x:aG}:aF T (.ops (⟨d,.app sz b s x,none⟩::l)::K) fr S=ob (zA sz b S (ev fr s) (ev fr x)) fun x=>aF T (.ops l::K) (aO fr d x.1) x.2:=by
 refine eZ ?_;simp only[bf,aH,zA];cases dS S sz (ev fr x)<;>rfl
@[simp]def aJj{sz b:Nat}{s x:aG}:aF T (.ops (⟨d,.gapp sz b s x,none⟩::l)::K) fr S=ob (zB sz b S (ev fr s) (ev fr x)) fun x=>aF T (.ops l::K) (aO fr d x.1) x.2:=by
 refine eZ ?_;simp only[bf,aH,zB];cases dS S sz (ev fr x)<;>rfl
@[simp]def aJk:aF T (.ops (⟨d,.emp0,none⟩::l)::K) fr S=aF T (.ops l::K) (aO fr d .emp) S:=eZ rfl
noncomputable def aC1 (T:aM)(f:Nat)(args:List PV)(S:St):PV→Option (PV×St)
 |.ptr i _=>lu i S (aS T f args S)
 |_=>none
@[simp]def aJl{f:Nat}{args:List PV}{S:St}{i o:Nat}:aC1 T f args S (.ptr i o)=lu i S (aS T f args S):=rfl
@[simp]def aJm{m:CM}{f:Nat}{xs:List aG}:aF T (.ops (⟨d,.call m f xs,none⟩::l)::K) fr S=ob (cE (aS T) m f (xs.map (ev fr)) S) fun x=>aF T (.ops l::K) (aO fr d x.1) x.2:=eZ rfl
noncomputable def qU (T:aM)(m:CM)(x:PV)(args:List PV)(S:St):Option (PV×St):=match x with|.fn f caps=>cE (aS T) m f (args++caps) S|.bfn f first=>cE (aS T) m f (first++args) S|_=>none
@[simp]def aJn{T:aM}{m:CM}{f:Nat}{first args:List PV}{S:St}:qU T m (.bfn f first) args S=cE (aS T) m f (first++args) S:=rfl
@[simp]def aJo{m:CM}{f:Nat}{caps args:List PV}:qU T m (.fn f caps) args S=cE (aS T) m f (args++caps) S:=rfl
@[simp]def aJp{m:CM}{x:aG}{xs:List aG}:aF T (.ops (⟨d,.callv m x xs,none⟩::l)::K) fr S=ob (qU T m (ev fr x) (xs.map (ev fr)) S) fun x=>aF T (.ops l::K) (aO fr d x.1) x.2:=eZ rfl
noncomputable def aJq (T:aM)(cm:CM)(m:Nat)(x:PV)(args:List PV)(S:St):Option (PV×St):=match x with|.iface t v=>(match T.meth t m with|some f=>cE (aS T) cm f (v::args) S|none=>none)|_=>none
end
attribute [simp] NA
def nt(c:Bool):Bool:=!c
def an(c d:Bool):Bool:=c&&d
@[simp]def aC2:nt true=false:=rfl
@[simp]def aC3:nt false=true:=rfl
@[simp]def aJr(d:Bool):an true d=d:=rfl
@[simp]def aJs(d:Bool):an false d=false:=rfl
@[simp]def aJt(d:Bool):an d true=d:=by cases d<;>rfl
@[simp]def aJu(d:Bool):an d false=false:=by cases d<;>rfl
def aE(c:Bool)(x:Option PV):Option PV:=if c=true then x else some (.tup [])
def gd(c:Bool)(v:PV):PV:=if c=true then v else .tup []
@[simp]def aJv(c:Bool)(v:PV):aE c (some v)=some (gd c v):=by cases c<;>rfl
@[simp]def aC4(x:Option PV):aE true x=x:=rfl
@[simp]def aC5(x:Option PV):aE false x=some (.tup []):=rfl
@[simp]def aJw(v:PV):gd true v=v:=rfl
@[simp]def aJx(v:PV):gd false v=.tup []:=rfl
@[congr]def aJy{c c':Bool}{v:PV}(h:c=c'):gd c v=gd c' v:=by rw[h]
def cc(v:PV)(b:Bool)(x:Option PV):Option PV:=match v with|.bool c=>aE (if b then c else !c) x|.tup []=>some (.tup [])|_=>none
@[congr]def aJz{v v':PV}{b:Bool}{x:Option PV}(h:v=v'):cc v b x=cc v' b x:=by rw[h]
@[simp]def aC6(c:Bool)(x:Option PV):cc (.bool c) true x=aE c x:=rfl
@[simp]def aC7(c:Bool)(x:Option PV):cc (.bool c) false x=aE (nt c) x:=rfl
@[simp]def aJA(b:Bool)(x:Option PV):cc (.tup []) b x=some (.tup []):=rfl
@[simp]def aJB(c d:Bool)(x:Option PV):cc (gd c (.bool d)) true x=aE (an c d) x:=by cases c<;>cases d<;>rfl
@[simp]def aJC(c d:Bool)(x:Option PV):cc (gd c (.bool d)) false x=aE (an c (nt d)) x:=by cases c<;>cases d<;>rfl
@[simp]def aJD(c d:Bool):bZ (.bool c) (.bool d) (.bool false)=some (.bool (c&&d)):=by cases c<;>rfl
@[simp]def aJE(c d:Bool):bZ (.bool c) (.bool true) (.bool d)=some (.bool (c||d)):=by cases c<;>rfl
@[simp]def aJF(a b:PV):bZ (.bool true) a b=some a:=rfl
@[simp]def aJG(a b:PV):bZ (.bool false) a b=some b:=rfl
noncomputable def gI (T:aM)(f:Nat)(args:List PV):Option PV:=if PV.freeL args then ef T f (PV.frzL args)else none
def qV{T:aM}{f:Nat}{args:List PV}(h:PV.freeL args=true):gI T f args=ef T f (PV.frzL args):=if_pos h
@[simp]def aJH{T:aM}{f:Nat}:gI T f []=ef T f []:=by rw[qV (by simp)];simp
@[simp]def aJI{T:aM}{f:Nat}{a:PV}(h:a.free=true):gI T f [a]=ef T f [a.frz]:=by rw[qV (by simp[h])];simp
@[simp]def aJJ{T:aM}{f:Nat}{a b:PV}(h:a.free=true)(h2:b.free=true):gI T f [a,b]=ef T f [a.frz,b.frz]:=by rw[qV (by simp[h,h2])];simp
@[simp]def aJK{T:aM}{f:Nat}{a b c:PV}(h:a.free=true)(h2:b.free=true)(h3:c.free=true):gI T f [a,b,c]=ef T f [a.frz,b.frz,c.frz]:=by rw[qV (by simp[h,h2,h3])];simp
@[simp]def sg1{c:Bool}{x:PV}{o:UnOp}:aE c (unOp o (gd c x))=aE c (unOp o x):=by cases c<;>rfl
@[simp]def sg2{c d:Bool}{x:PV}{o:UnOp}:aE (an c d) (unOp o (gd c x))=aE (an c d) (unOp o x):=by cases c<;>cases d<;>rfl
@[simp]def sg3{c d:Bool}{x:PV}{o:UnOp}:aE (an c d) (unOp o (gd d x))=aE (an c d) (unOp o x):=by cases c<;>cases d<;>rfl
@[simp]def sg4{c d e:Bool}{x:PV}{o:UnOp}:aE (an (an c d) e) (unOp o (gd c x))=aE (an (an c d) e) (unOp o x):=by cases c<;>cases d<;>cases e<;>rfl
@[simp]def sg5{c d e:Bool}{x:PV}{o:UnOp}:aE (an (an c d) e) (unOp o (gd (an c d) x))=aE (an (an c d) e) (unOp o x):=by cases c<;>cases d<;>cases e<;>rfl
@[simp]def sg6{c:Bool}{x:PV}{neg:Bool}{k:NK}:aE c (fH neg k (gd c x))=aE c (fH neg k x):=by cases c<;>rfl
@[simp]def sg7{c d:Bool}{x:PV}{neg:Bool}{k:NK}:aE (an c d) (fH neg k (gd c x))=aE (an c d) (fH neg k x):=by cases c<;>cases d<;>rfl
@[simp]def sg8{c d:Bool}{x:PV}{neg:Bool}{k:NK}:aE (an c d) (fH neg k (gd d x))=aE (an c d) (fH neg k x):=by cases c<;>cases d<;>rfl
@[simp]def sg9{c d e:Bool}{x:PV}{neg:Bool}{k:NK}:aE (an (an c d) e) (fH neg k (gd c x))=aE (an (an c d) e) (fH neg k x):=by cases c<;>cases d<;>cases e<;>rfl
@[simp]def aJU{c d e:Bool}{x:PV}{neg:Bool}{k:NK}:aE (an (an c d) e) (fH neg k (gd (an c d) x))=aE (an (an c d) e) (fH neg k x):=by cases c<;>cases d<;>cases e<;>rfl
@[simp]def aJV{c:Bool}{x:PV}:aE c (fU (gd c x))=aE c (fU x):=by cases c<;>rfl
@[simp]def aJW{c d:Bool}{x:PV}:aE (an c d) (fU (gd c x))=aE (an c d) (fU x):=by cases c<;>cases d<;>rfl
@[simp]def aJX{c d:Bool}{x:PV}:aE (an c d) (fU (gd d x))=aE (an c d) (fU x):=by cases c<;>cases d<;>rfl
@[simp]def aJY{c d e:Bool}{x:PV}:aE (an (an c d) e) (fU (gd c x))=aE (an (an c d) e) (fU x):=by cases c<;>cases d<;>cases e<;>rfl
@[simp]def aJZ{c d e:Bool}{x:PV}:aE (an (an c d) e) (fU (gd (an c d) x))=aE (an (an c d) e) (fU x):=by cases c<;>cases d<;>cases e<;>rfl
@[simp]def aJ0{c:Bool}{x:PV}{k:IntKind}:aE c (gY k (gd c x))=aE c (gY k x):=by cases c<;>rfl
@[simp]def aJ1{c d:Bool}{x:PV}{k:IntKind}:aE (an c d) (gY k (gd c x))=aE (an c d) (gY k x):=by cases c<;>cases d<;>rfl
@[simp]def aJ2{c d:Bool}{x:PV}{k:IntKind}:aE (an c d) (gY k (gd d x))=aE (an c d) (gY k x):=by cases c<;>cases d<;>rfl
@[simp]def aJ3{c d e:Bool}{x:PV}{k:IntKind}:aE (an (an c d) e) (gY k (gd c x))=aE (an (an c d) e) (gY k x):=by cases c<;>cases d<;>cases e<;>rfl
@[simp]def aJ4{c d e:Bool}{x:PV}{k:IntKind}:aE (an (an c d) e) (gY k (gd (an c d) x))=aE (an (an c d) e) (gY k x):=by cases c<;>cases d<;>cases e<;>rfl
@[simp]def aJ5{c:Bool}{x:PV}:aE c (ib (gd c x))=aE c (ib x):=by cases c<;>rfl
@[simp]def aJ6{c d:Bool}{x:PV}:aE (an c d) (ib (gd c x))=aE (an c d) (ib x):=by cases c<;>cases d<;>rfl
@[simp]def aJ7{c d:Bool}{x:PV}:aE (an c d) (ib (gd d x))=aE (an c d) (ib x):=by cases c<;>cases d<;>rfl
@[simp]def aJ8{c d e:Bool}{x:PV}:aE (an (an c d) e) (ib (gd c x))=aE (an (an c d) e) (ib x):=by cases c<;>cases d<;>cases e<;>rfl
@[simp]def aJ9{c d e:Bool}{x:PV}:aE (an (an c d) e) (ib (gd (an c d) x))=aE (an (an c d) e) (ib x):=by cases c<;>cases d<;>cases e<;>rfl
@[simp]def aKa{c:Bool}{x:PV}{ag:Bool}{off n:Nat}:aE c (ic ag off n (gd c x))=aE c (ic ag off n x):=by cases c<;>rfl
@[simp]def aKb{c d:Bool}{x:PV}{ag:Bool}{off n:Nat}:aE (an c d) (ic ag off n (gd c x))=aE (an c d) (ic ag off n x):=by cases c<;>cases d<;>rfl
@[simp]def aKc{c d:Bool}{x:PV}{ag:Bool}{off n:Nat}:aE (an c d) (ic ag off n (gd d x))=aE (an c d) (ic ag off n x):=by cases c<;>cases d<;>rfl
@[simp]def aKd{c d e:Bool}{x:PV}{ag:Bool}{off n:Nat}:aE (an (an c d) e) (ic ag off n (gd c x))=aE (an (an c d) e) (ic ag off n x):=by cases c<;>cases d<;>cases e<;>rfl
@[simp]def aKe{c d e:Bool}{x:PV}{ag:Bool}{off n:Nat}:aE (an (an c d) e) (ic ag off n (gd (an c d) x))=aE (an (an c d) e) (ic ag off n x):=by cases c<;>cases d<;>cases e<;>rfl
@[simp]def aKf{c:Bool}{x:PV}{i:Nat}:aE c (gZ i (gd c x))=aE c (gZ i x):=by cases c<;>rfl
@[simp]def aKg{c d:Bool}{x:PV}{i:Nat}:aE (an c d) (gZ i (gd c x))=aE (an c d) (gZ i x):=by cases c<;>cases d<;>rfl
@[simp]def aKh{c d:Bool}{x:PV}{i:Nat}:aE (an c d) (gZ i (gd d x))=aE (an c d) (gZ i x):=by cases c<;>cases d<;>rfl
@[simp]def aKi{c d e:Bool}{x:PV}{i:Nat}:aE (an (an c d) e) (gZ i (gd c x))=aE (an (an c d) e) (gZ i x):=by cases c<;>cases d<;>cases e<;>rfl
@[simp]def aKj{c d e:Bool}{x:PV}{i:Nat}:aE (an (an c d) e) (gZ i (gd (an c d) x))=aE (an (an c d) e) (gZ i x):=by cases c<;>cases d<;>cases e<;>rfl
@[simp]def aKk{c:Bool}{x:PV}{t:Nat}{ok:Bool}{z:PV}:aE c (gG t ok z (gd c x))=aE c (gG t ok z x):=by cases c<;>rfl
@[simp]def aKl{c d:Bool}{x:PV}{t:Nat}{ok:Bool}{z:PV}:aE (an c d) (gG t ok z (gd c x))=aE (an c d) (gG t ok z x):=by cases c<;>cases d<;>rfl
@[simp]def aKm{c d:Bool}{x:PV}{t:Nat}{ok:Bool}{z:PV}:aE (an c d) (gG t ok z (gd d x))=aE (an c d) (gG t ok z x):=by cases c<;>cases d<;>rfl
@[simp]def aKn{c d e:Bool}{x:PV}{t:Nat}{ok:Bool}{z:PV}:aE (an (an c d) e) (gG t ok z (gd c x))=aE (an (an c d) e) (gG t ok z x):=by cases c<;>cases d<;>cases e<;>rfl
@[simp]def aKo{c d e:Bool}{x:PV}{t:Nat}{ok:Bool}{z:PV}:aE (an (an c d) e) (gG t ok z (gd (an c d) x))=aE (an (an c d) e) (gG t ok z x):=by cases c<;>cases d<;>cases e<;>rfl
@[simp]def aKp{c:Bool}{x:PV}{lo hi:Option PV}:aE c (ig lo hi (gd c x))=aE c (ig lo hi x):=by cases c<;>rfl
@[simp]def aKq{c d:Bool}{x:PV}{lo hi:Option PV}:aE (an c d) (ig lo hi (gd c x))=aE (an c d) (ig lo hi x):=by cases c<;>cases d<;>rfl
@[simp]def aKr{c d:Bool}{x:PV}{lo hi:Option PV}:aE (an c d) (ig lo hi (gd d x))=aE (an c d) (ig lo hi x):=by cases c<;>cases d<;>rfl
@[simp]def aKs{c d e:Bool}{x:PV}{lo hi:Option PV}:aE (an (an c d) e) (ig lo hi (gd c x))=aE (an (an c d) e) (ig lo hi x):=by cases c<;>cases d<;>cases e<;>rfl
@[simp]def aKt{c d e:Bool}{x:PV}{lo hi:Option PV}:aE (an (an c d) e) (ig lo hi (gd (an c d) x))=aE (an (an c d) e) (ig lo hi x):=by cases c<;>cases d<;>cases e<;>rfl
@[simp]def aKu{c:Bool}{x:PV}{sz:Nat}{lo hi:Option PV}:aE c (dk sz lo hi (gd c x))=aE c (dk sz lo hi x):=by cases c<;>rfl
@[simp]def aKv{c d:Bool}{x:PV}{sz:Nat}{lo hi:Option PV}:aE (an c d) (dk sz lo hi (gd c x))=aE (an c d) (dk sz lo hi x):=by cases c<;>cases d<;>rfl
@[simp]def aKw{c d:Bool}{x:PV}{sz:Nat}{lo hi:Option PV}:aE (an c d) (dk sz lo hi (gd d x))=aE (an c d) (dk sz lo hi x):=by cases c<;>cases d<;>rfl
@[simp]def aKx{c d e:Bool}{x:PV}{sz:Nat}{lo hi:Option PV}:aE (an (an c d) e) (dk sz lo hi (gd c x))=aE (an (an c d) e) (dk sz lo hi x):=by cases c<;>cases d<;>cases e<;>rfl
@[simp]def aKy{c d e:Bool}{x:PV}{sz:Nat}{lo hi:Option PV}:aE (an (an c d) e) (dk sz lo hi (gd (an c d) x))=aE (an (an c d) e) (dk sz lo hi x):=by cases c<;>cases d<;>cases e<;>rfl
@[simp]def aKz{c:Bool}{x:PV}{off:Nat}:aE c (gH off (gd c x))=aE c (gH off x):=by cases c<;>rfl
@[simp]def aKA{c d:Bool}{x:PV}{off:Nat}:aE (an c d) (gH off (gd c x))=aE (an c d) (gH off x):=by cases c<;>cases d<;>rfl
@[simp]def aKB{c d:Bool}{x:PV}{off:Nat}:aE (an c d) (gH off (gd d x))=aE (an c d) (gH off x):=by cases c<;>cases d<;>rfl
@[simp]def aKC{c d e:Bool}{x:PV}{off:Nat}:aE (an (an c d) e) (gH off (gd c x))=aE (an (an c d) e) (gH off x):=by cases c<;>cases d<;>cases e<;>rfl
@[simp]def aKD{c d e:Bool}{x:PV}{off:Nat}:aE (an (an c d) e) (gH off (gd (an c d) x))=aE (an (an c d) e) (gH off x):=by cases c<;>cases d<;>cases e<;>rfl
@[simp]def aKE{c:Bool}{x:PV}{st:Bool}:aE c (dl st (gd c x))=aE c (dl st x):=by cases c<;>rfl
@[simp]def aKF{c d:Bool}{x:PV}{st:Bool}:aE (an c d) (dl st (gd c x))=aE (an c d) (dl st x):=by cases c<;>cases d<;>rfl
@[simp]def aKG{c d:Bool}{x:PV}{st:Bool}:aE (an c d) (dl st (gd d x))=aE (an c d) (dl st x):=by cases c<;>cases d<;>rfl
@[simp]def aKH{c d e:Bool}{x:PV}{st:Bool}:aE (an (an c d) e) (dl st (gd c x))=aE (an (an c d) e) (dl st x):=by cases c<;>cases d<;>cases e<;>rfl
@[simp]def aKI{c d e:Bool}{x:PV}{st:Bool}:aE (an (an c d) e) (dl st (gd (an c d) x))=aE (an (an c d) e) (dl st x):=by cases c<;>cases d<;>cases e<;>rfl
@[simp]def aKJ{c:Bool}{x:PV}:aE c (fI (gd c x))=aE c (fI x):=by cases c<;>rfl
@[simp]def aKK{c d:Bool}{x:PV}:aE (an c d) (fI (gd c x))=aE (an c d) (fI x):=by cases c<;>cases d<;>rfl
@[simp]def aKL{c d:Bool}{x:PV}:aE (an c d) (fI (gd d x))=aE (an c d) (fI x):=by cases c<;>cases d<;>rfl
@[simp]def aKM{c d e:Bool}{x:PV}:aE (an (an c d) e) (fI (gd c x))=aE (an (an c d) e) (fI x):=by cases c<;>cases d<;>cases e<;>rfl
@[simp]def aKN{c d e:Bool}{x:PV}:aE (an (an c d) e) (fI (gd (an c d) x))=aE (an (an c d) e) (fI x):=by cases c<;>cases d<;>cases e<;>rfl
@[simp]def aKO{c:Bool}{x:PV}{S:St}{ag:Bool}{n:Nat}:aE c (cO S ag n (gd c x))=aE c (cO S ag n x):=by cases c<;>rfl
@[simp]def aKP{c d:Bool}{x:PV}{S:St}{ag:Bool}{n:Nat}:aE (an c d) (cO S ag n (gd c x))=aE (an c d) (cO S ag n x):=by cases c<;>cases d<;>rfl
@[simp]def aKQ{c d:Bool}{x:PV}{S:St}{ag:Bool}{n:Nat}:aE (an c d) (cO S ag n (gd d x))=aE (an c d) (cO S ag n x):=by cases c<;>cases d<;>rfl
@[simp]def aKR{c d e:Bool}{x:PV}{S:St}{ag:Bool}{n:Nat}:aE (an (an c d) e) (cO S ag n (gd c x))=aE (an (an c d) e) (cO S ag n x):=by cases c<;>cases d<;>cases e<;>rfl
@[simp]def aKS{c d e:Bool}{x:PV}{S:St}{ag:Bool}{n:Nat}:aE (an (an c d) e) (cO S ag n (gd (an c d) x))=aE (an (an c d) e) (cO S ag n x):=by cases c<;>cases d<;>cases e<;>rfl
@[simp]def aKT{c:Bool}{x y:PV}{o:BinOp}:aE c (arith o (gd c x) y)=aE c (arith o x y):=by cases c<;>rfl
@[simp]def aKU{c:Bool}{x y:PV}{o:BinOp}:aE c (arith o y (gd c x))=aE c (arith o y x):=by cases c<;>rfl
@[simp]def aKV{c d:Bool}{x y:PV}{o:BinOp}:aE (an c d) (arith o (gd c x) y)=aE (an c d) (arith o x y):=by cases c<;>cases d<;>rfl
@[simp]def aKW{c d:Bool}{x y:PV}{o:BinOp}:aE (an c d) (arith o y (gd c x))=aE (an c d) (arith o y x):=by cases c<;>cases d<;>rfl
@[simp]def aKX{c d:Bool}{x y:PV}{o:BinOp}:aE (an c d) (arith o (gd d x) y)=aE (an c d) (arith o x y):=by cases c<;>cases d<;>rfl
@[simp]def aKY{c d:Bool}{x y:PV}{o:BinOp}:aE (an c d) (arith o y (gd d x))=aE (an c d) (arith o y x):=by cases c<;>cases d<;>rfl
@[simp]def aKZ{c d e:Bool}{x y:PV}{o:BinOp}:aE (an (an c d) e) (arith o (gd c x) y)=aE (an (an c d) e) (arith o x y):=by cases c<;>cases d<;>cases e<;>rfl
@[simp]def aK0{c d e:Bool}{x y:PV}{o:BinOp}:aE (an (an c d) e) (arith o y (gd c x))=aE (an (an c d) e) (arith o y x):=by cases c<;>cases d<;>cases e<;>rfl
@[simp]def aK1{c d e:Bool}{x y:PV}{o:BinOp}:aE (an (an c d) e) (arith o (gd (an c d) x) y)=aE (an (an c d) e) (arith o x y):=by cases c<;>cases d<;>cases e<;>rfl
@[simp]def aK2{c d e:Bool}{x y:PV}{o:BinOp}:aE (an (an c d) e) (arith o y (gd (an c d) x))=aE (an (an c d) e) (arith o y x):=by cases c<;>cases d<;>cases e<;>rfl
@[simp]def aK3{c:Bool}{x y:PV}{neg:Bool}:aE c (eF neg (gd c x) y)=aE c (eF neg x y):=by cases c<;>rfl
@[simp]def aK4{c:Bool}{x y:PV}{neg:Bool}:aE c (eF neg y (gd c x))=aE c (eF neg y x):=by cases c<;>rfl
@[simp]def aK5{c d:Bool}{x y:PV}{neg:Bool}:aE (an c d) (eF neg (gd c x) y)=aE (an c d) (eF neg x y):=by cases c<;>cases d<;>rfl
@[simp]def aK6{c d:Bool}{x y:PV}{neg:Bool}:aE (an c d) (eF neg y (gd c x))=aE (an c d) (eF neg y x):=by cases c<;>cases d<;>rfl
@[simp]def aK7{c d:Bool}{x y:PV}{neg:Bool}:aE (an c d) (eF neg (gd d x) y)=aE (an c d) (eF neg x y):=by cases c<;>cases d<;>rfl
@[simp]def aK8{c d:Bool}{x y:PV}{neg:Bool}:aE (an c d) (eF neg y (gd d x))=aE (an c d) (eF neg y x):=by cases c<;>cases d<;>rfl
@[simp]def aK9{c d e:Bool}{x y:PV}{neg:Bool}:aE (an (an c d) e) (eF neg (gd c x) y)=aE (an (an c d) e) (eF neg x y):=by cases c<;>cases d<;>cases e<;>rfl
@[simp]def aLa{c d e:Bool}{x y:PV}{neg:Bool}:aE (an (an c d) e) (eF neg y (gd c x))=aE (an (an c d) e) (eF neg y x):=by cases c<;>cases d<;>cases e<;>rfl
@[simp]def aLb{c d e:Bool}{x y:PV}{neg:Bool}:aE (an (an c d) e) (eF neg (gd (an c d) x) y)=aE (an (an c d) e) (eF neg x y):=by cases c<;>cases d<;>cases e<;>rfl
@[simp]def aLc{c d e:Bool}{x y:PV}{neg:Bool}:aE (an (an c d) e) (eF neg y (gd (an c d) x))=aE (an (an c d) e) (eF neg y x):=by cases c<;>cases d<;>cases e<;>rfl
@[simp]def aLd{c:Bool}{x y:PV}:aE c (dZ (gd c x) y)=aE c (dZ x y):=by cases c<;>rfl
@[simp]def aLe{c:Bool}{x y:PV}:aE c (dZ y (gd c x))=aE c (dZ y x):=by cases c<;>rfl
@[simp]def aLf{c d:Bool}{x y:PV}:aE (an c d) (dZ (gd c x) y)=aE (an c d) (dZ x y):=by cases c<;>cases d<;>rfl
@[simp]def aLg{c d:Bool}{x y:PV}:aE (an c d) (dZ y (gd c x))=aE (an c d) (dZ y x):=by cases c<;>cases d<;>rfl
@[simp]def aLh{c d:Bool}{x y:PV}:aE (an c d) (dZ (gd d x) y)=aE (an c d) (dZ x y):=by cases c<;>cases d<;>rfl
@[simp]def aLi{c d:Bool}{x y:PV}:aE (an c d) (dZ y (gd d x))=aE (an c d) (dZ y x):=by cases c<;>cases d<;>rfl
@[simp]def aLj{c d e:Bool}{x y:PV}:aE (an (an c d) e) (dZ (gd c x) y)=aE (an (an c d) e) (dZ x y):=by cases c<;>cases d<;>cases e<;>rfl
@[simp]def aLk{c d e:Bool}{x y:PV}:aE (an (an c d) e) (dZ y (gd c x))=aE (an (an c d) e) (dZ y x):=by cases c<;>cases d<;>cases e<;>rfl
@[simp]def aLl{c d e:Bool}{x y:PV}:aE (an (an c d) e) (dZ (gd (an c d) x) y)=aE (an (an c d) e) (dZ x y):=by cases c<;>cases d<;>cases e<;>rfl
@[simp]def aLm{c d e:Bool}{x y:PV}:aE (an (an c d) e) (dZ y (gd (an c d) x))=aE (an (an c d) e) (dZ y x):=by cases c<;>cases d<;>cases e<;>rfl
@[simp]def aLn{c:Bool}{x y:PV}{len n:Nat}{ag:Bool}:aE c (eE len n ag (gd c x) y)=aE c (eE len n ag x y):=by cases c<;>rfl
@[simp]def aLo{c:Bool}{x y:PV}{len n:Nat}{ag:Bool}:aE c (eE len n ag y (gd c x))=aE c (eE len n ag y x):=by cases c<;>rfl
@[simp]def aLp{c d:Bool}{x y:PV}{len n:Nat}{ag:Bool}:aE (an c d) (eE len n ag (gd c x) y)=aE (an c d) (eE len n ag x y):=by cases c<;>cases d<;>rfl
@[simp]def aLq{c d:Bool}{x y:PV}{len n:Nat}{ag:Bool}:aE (an c d) (eE len n ag y (gd c x))=aE (an c d) (eE len n ag y x):=by cases c<;>cases d<;>rfl
@[simp]def aLr{c d:Bool}{x y:PV}{len n:Nat}{ag:Bool}:aE (an c d) (eE len n ag (gd d x) y)=aE (an c d) (eE len n ag x y):=by cases c<;>cases d<;>rfl
@[simp]def aLs{c d:Bool}{x y:PV}{len n:Nat}{ag:Bool}:aE (an c d) (eE len n ag y (gd d x))=aE (an c d) (eE len n ag y x):=by cases c<;>cases d<;>rfl
@[simp]def aLt{c d e:Bool}{x y:PV}{len n:Nat}{ag:Bool}:aE (an (an c d) e) (eE len n ag (gd c x) y)=aE (an (an c d) e) (eE len n ag x y):=by cases c<;>cases d<;>cases e<;>rfl
@[simp]def aLu{c d e:Bool}{x y:PV}{len n:Nat}{ag:Bool}:aE (an (an c d) e) (eE len n ag y (gd c x))=aE (an (an c d) e) (eE len n ag y x):=by cases c<;>cases d<;>cases e<;>rfl
@[simp]def aLv{c d e:Bool}{x y:PV}{len n:Nat}{ag:Bool}:aE (an (an c d) e) (eE len n ag (gd (an c d) x) y)=aE (an (an c d) e) (eE len n ag x y):=by cases c<;>cases d<;>cases e<;>rfl
@[simp]def aLw{c d e:Bool}{x y:PV}{len n:Nat}{ag:Bool}:aE (an (an c d) e) (eE len n ag y (gd (an c d) x))=aE (an (an c d) e) (eE len n ag y x):=by cases c<;>cases d<;>cases e<;>rfl
@[simp]def aLx{c:Bool}{x y:PV}{sz:Nat}:aE c (cb sz (gd c x) y)=aE c (cb sz x y):=by cases c<;>rfl
@[simp]def aLy{c:Bool}{x y:PV}{sz:Nat}:aE c (cb sz y (gd c x))=aE c (cb sz y x):=by cases c<;>rfl
@[simp]def aLz{c d:Bool}{x y:PV}{sz:Nat}:aE (an c d) (cb sz (gd c x) y)=aE (an c d) (cb sz x y):=by cases c<;>cases d<;>rfl
@[simp]def aLA{c d:Bool}{x y:PV}{sz:Nat}:aE (an c d) (cb sz y (gd c x))=aE (an c d) (cb sz y x):=by cases c<;>cases d<;>rfl
@[simp]def aLB{c d:Bool}{x y:PV}{sz:Nat}:aE (an c d) (cb sz (gd d x) y)=aE (an c d) (cb sz x y):=by cases c<;>cases d<;>rfl
@[simp]def aLC{c d:Bool}{x y:PV}{sz:Nat}:aE (an c d) (cb sz y (gd d x))=aE (an c d) (cb sz y x):=by cases c<;>cases d<;>rfl
@[simp]def aLD{c d e:Bool}{x y:PV}{sz:Nat}:aE (an (an c d) e) (cb sz (gd c x) y)=aE (an (an c d) e) (cb sz x y):=by cases c<;>cases d<;>cases e<;>rfl
@[simp]def aLE{c d e:Bool}{x y:PV}{sz:Nat}:aE (an (an c d) e) (cb sz y (gd c x))=aE (an (an c d) e) (cb sz y x):=by cases c<;>cases d<;>cases e<;>rfl
@[simp]def aLF{c d e:Bool}{x y:PV}{sz:Nat}:aE (an (an c d) e) (cb sz (gd (an c d) x) y)=aE (an (an c d) e) (cb sz x y):=by cases c<;>cases d<;>cases e<;>rfl
@[simp]def aLG{c d e:Bool}{x y:PV}{sz:Nat}:aE (an (an c d) e) (cb sz y (gd (an c d) x))=aE (an (an c d) e) (cb sz y x):=by cases c<;>cases d<;>cases e<;>rfl
@[simp]def aLH{c:Bool}{x y:PV}{len sz:Nat}:aE c (da len sz (gd c x) y)=aE c (da len sz x y):=by cases c<;>rfl
@[simp]def aLI{c:Bool}{x y:PV}{len sz:Nat}:aE c (da len sz y (gd c x))=aE c (da len sz y x):=by cases c<;>rfl
@[simp]def aLJ{c d:Bool}{x y:PV}{len sz:Nat}:aE (an c d) (da len sz (gd c x) y)=aE (an c d) (da len sz x y):=by cases c<;>cases d<;>rfl
@[simp]def aLK{c d:Bool}{x y:PV}{len sz:Nat}:aE (an c d) (da len sz y (gd c x))=aE (an c d) (da len sz y x):=by cases c<;>cases d<;>rfl
@[simp]def aLL{c d:Bool}{x y:PV}{len sz:Nat}:aE (an c d) (da len sz (gd d x) y)=aE (an c d) (da len sz x y):=by cases c<;>cases d<;>rfl
@[simp]def aLM{c d:Bool}{x y:PV}{len sz:Nat}:aE (an c d) (da len sz y (gd d x))=aE (an c d) (da len sz y x):=by cases c<;>cases d<;>rfl
@[simp]def aLN{c d e:Bool}{x y:PV}{len sz:Nat}:aE (an (an c d) e) (da len sz (gd c x) y)=aE (an (an c d) e) (da len sz x y):=by cases c<;>cases d<;>cases e<;>rfl
@[simp]def aLO{c d e:Bool}{x y:PV}{len sz:Nat}:aE (an (an c d) e) (da len sz y (gd c x))=aE (an (an c d) e) (da len sz y x):=by cases c<;>cases d<;>cases e<;>rfl
@[simp]def aLP{c d e:Bool}{x y:PV}{len sz:Nat}:aE (an (an c d) e) (da len sz (gd (an c d) x) y)=aE (an (an c d) e) (da len sz x y):=by cases c<;>cases d<;>cases e<;>rfl
@[simp]def aLQ{c d e:Bool}{x y:PV}{len sz:Nat}:aE (an (an c d) e) (da len sz y (gd (an c d) x))=aE (an (an c d) e) (da len sz y x):=by cases c<;>cases d<;>cases e<;>rfl
@[simp]def aLR{c:Bool}{x y:PV}{mx:Bool}:aE c (db mx (gd c x) y)=aE c (db mx x y):=by cases c<;>rfl
@[simp]def aLS{c:Bool}{x y:PV}{mx:Bool}:aE c (db mx y (gd c x))=aE c (db mx y x):=by cases c<;>rfl
@[simp]def aLT{c d:Bool}{x y:PV}{mx:Bool}:aE (an c d) (db mx (gd c x) y)=aE (an c d) (db mx x y):=by cases c<;>cases d<;>rfl
@[simp]def aLU{c d:Bool}{x y:PV}{mx:Bool}:aE (an c d) (db mx y (gd c x))=aE (an c d) (db mx y x):=by cases c<;>cases d<;>rfl
@[simp]def aLV{c d:Bool}{x y:PV}{mx:Bool}:aE (an c d) (db mx (gd d x) y)=aE (an c d) (db mx x y):=by cases c<;>cases d<;>rfl
@[simp]def aLW{c d:Bool}{x y:PV}{mx:Bool}:aE (an c d) (db mx y (gd d x))=aE (an c d) (db mx y x):=by cases c<;>cases d<;>rfl
@[simp]def aLX{c d e:Bool}{x y:PV}{mx:Bool}:aE (an (an c d) e) (db mx (gd c x) y)=aE (an (an c d) e) (db mx x y):=by cases c<;>cases d<;>cases e<;>rfl
@[simp]def aLY{c d e:Bool}{x y:PV}{mx:Bool}:aE (an (an c d) e) (db mx y (gd c x))=aE (an (an c d) e) (db mx y x):=by cases c<;>cases d<;>cases e<;>rfl
@[simp]def aLZ{c d e:Bool}{x y:PV}{mx:Bool}:aE (an (an c d) e) (db mx (gd (an c d) x) y)=aE (an (an c d) e) (db mx x y):=by cases c<;>cases d<;>cases e<;>rfl
@[simp]def aL0{c d e:Bool}{x y:PV}{mx:Bool}:aE (an (an c d) e) (db mx y (gd (an c d) x))=aE (an (an c d) e) (db mx y x):=by cases c<;>cases d<;>cases e<;>rfl
@[simp]def aL1{c:Bool}{x y:PV}{neg isb:Bool}{n:Nat}:aE c (eD neg isb n (gd c x) y)=aE c (eD neg isb n x y):=by cases c<;>rfl
@[simp]def aL2{c:Bool}{x y:PV}{neg isb:Bool}{n:Nat}:aE c (eD neg isb n y (gd c x))=aE c (eD neg isb n y x):=by cases c<;>rfl
@[simp]def aL3{c d:Bool}{x y:PV}{neg isb:Bool}{n:Nat}:aE (an c d) (eD neg isb n (gd c x) y)=aE (an c d) (eD neg isb n x y):=by cases c<;>cases d<;>rfl
@[simp]def aL4{c d:Bool}{x y:PV}{neg isb:Bool}{n:Nat}:aE (an c d) (eD neg isb n y (gd c x))=aE (an c d) (eD neg isb n y x):=by cases c<;>cases d<;>rfl
@[simp]def aL5{c d:Bool}{x y:PV}{neg isb:Bool}{n:Nat}:aE (an c d) (eD neg isb n (gd d x) y)=aE (an c d) (eD neg isb n x y):=by cases c<;>cases d<;>rfl
@[simp]def aL6{c d:Bool}{x y:PV}{neg isb:Bool}{n:Nat}:aE (an c d) (eD neg isb n y (gd d x))=aE (an c d) (eD neg isb n y x):=by cases c<;>cases d<;>rfl
@[simp]def aL7{c d e:Bool}{x y:PV}{neg isb:Bool}{n:Nat}:aE (an (an c d) e) (eD neg isb n (gd c x) y)=aE (an (an c d) e) (eD neg isb n x y):=by cases c<;>cases d<;>cases e<;>rfl
@[simp]def aL8{c d e:Bool}{x y:PV}{neg isb:Bool}{n:Nat}:aE (an (an c d) e) (eD neg isb n y (gd c x))=aE (an (an c d) e) (eD neg isb n y x):=by cases c<;>cases d<;>cases e<;>rfl
@[simp]def aL9{c d e:Bool}{x y:PV}{neg isb:Bool}{n:Nat}:aE (an (an c d) e) (eD neg isb n (gd (an c d) x) y)=aE (an (an c d) e) (eD neg isb n x y):=by cases c<;>cases d<;>cases e<;>rfl
@[simp]def aMa{c d e:Bool}{x y:PV}{neg isb:Bool}{n:Nat}:aE (an (an c d) e) (eD neg isb n y (gd (an c d) x))=aE (an (an c d) e) (eD neg isb n y x):=by cases c<;>cases d<;>cases e<;>rfl
@[simp]def aMb{c:Bool}{x:PV}:gd c (gd c x)=gd c x:=by cases c<;>rfl
@[simp]def aMc{c:Bool}{a b p:PV}:aE c (bZ (gd c a) b p)=aE c (bZ a b p):=by cases c<;>rfl
@[simp]def aMd{c:Bool}{a b p:PV}:aE c (bZ a (gd c b) p)=aE c (bZ a b p):=by cases c<;>rfl
@[simp]def aMe{c:Bool}{a b p:PV}:aE c (bZ a b (gd c p))=aE c (bZ a b p):=by cases c<;>rfl
@[simp]def aMf{c d:Bool}{x:PV}:gd (an c d) (gd c x)=gd (an c d) x:=by cases c<;>cases d<;>rfl
@[simp]def aMg{c d:Bool}{a b p:PV}:aE (an c d) (bZ (gd c a) b p)=aE (an c d) (bZ a b p):=by cases c<;>cases d<;>rfl
@[simp]def aMh{c d:Bool}{a b p:PV}:aE (an c d) (bZ a (gd c b) p)=aE (an c d) (bZ a b p):=by cases c<;>cases d<;>rfl
@[simp]def aMi{c d:Bool}{a b p:PV}:aE (an c d) (bZ a b (gd c p))=aE (an c d) (bZ a b p):=by cases c<;>cases d<;>rfl
@[simp]def aMj{c d:Bool}{x:PV}:gd (an c d) (gd d x)=gd (an c d) x:=by cases c<;>cases d<;>rfl
@[simp]def aMk{c d:Bool}{a b p:PV}:aE (an c d) (bZ (gd d a) b p)=aE (an c d) (bZ a b p):=by cases c<;>cases d<;>rfl
@[simp]def aMl{c d:Bool}{a b p:PV}:aE (an c d) (bZ a (gd d b) p)=aE (an c d) (bZ a b p):=by cases c<;>cases d<;>rfl
@[simp]def aMm{c d:Bool}{a b p:PV}:aE (an c d) (bZ a b (gd d p))=aE (an c d) (bZ a b p):=by cases c<;>cases d<;>rfl
@[simp]def aMn{c d e:Bool}{x:PV}:gd (an (an c d) e) (gd c x)=gd (an (an c d) e) x:=by cases c<;>cases d<;>cases e<;>rfl
@[simp]def aMo{c d e:Bool}{a b p:PV}:aE (an (an c d) e) (bZ (gd c a) b p)=aE (an (an c d) e) (bZ a b p):=by cases c<;>cases d<;>cases e<;>rfl
@[simp]def aMp{c d e:Bool}{a b p:PV}:aE (an (an c d) e) (bZ a (gd c b) p)=aE (an (an c d) e) (bZ a b p):=by cases c<;>cases d<;>cases e<;>rfl
@[simp]def aMq{c d e:Bool}{a b p:PV}:aE (an (an c d) e) (bZ a b (gd c p))=aE (an (an c d) e) (bZ a b p):=by cases c<;>cases d<;>cases e<;>rfl
@[simp]def aMr{c d e:Bool}{x:PV}:gd (an (an c d) e) (gd (an c d) x)=gd (an (an c d) e) x:=by cases c<;>cases d<;>cases e<;>rfl
@[simp]def aMs{c d e:Bool}{a b p:PV}:aE (an (an c d) e) (bZ (gd (an c d) a) b p)=aE (an (an c d) e) (bZ a b p):=by cases c<;>cases d<;>cases e<;>rfl
@[simp]def aMt{c d e:Bool}{a b p:PV}:aE (an (an c d) e) (bZ a (gd (an c d) b) p)=aE (an (an c d) e) (bZ a b p):=by cases c<;>cases d<;>cases e<;>rfl
@[simp]def aMu{c d e:Bool}{a b p:PV}:aE (an (an c d) e) (bZ a b (gd (an c d) p))=aE (an (an c d) e) (bZ a b p):=by cases c<;>cases d<;>cases e<;>rfl
@[simp]def aMv{T:aM}{f:Nat}{c:Bool}{x:PV}:aE c (gI T f [gd c x])=aE c (gI T f [x]):=by cases c<;>rfl
@[simp]def aMw{T:aM}{f:Nat}{c:Bool}{x y:PV}:aE c (gI T f [gd c x,y])=aE c (gI T f [x,y]):=by cases c<;>rfl
@[simp]def aMx{T:aM}{f:Nat}{c:Bool}{x y:PV}:aE c (gI T f [x,gd c y])=aE c (gI T f [x,y]):=by cases c<;>rfl
@[simp]def aMy{c:Bool}{a b:PV}:bZ (.bool c) (gd c a) b=bZ (.bool c) a b:=by cases c<;>rfl
@[simp]def aMz{c:Bool}{a b:PV}:bZ (.bool c) a (gd (nt c) b)=bZ (.bool c) a b:=by cases c<;>rfl
@[simp]def aMA{g c:Bool}{a b:PV}:aE g (bZ (.bool c) (gd (an g c) a) b)=aE g (bZ (.bool c) a b):=by cases g<;>cases c<;>rfl
@[simp]def aMB{g c:Bool}{a b:PV}:aE g (bZ (.bool c) a (gd (an g (nt c)) b))=aE g (bZ (.bool c) a b):=by cases g<;>cases c<;>rfl
section
variable {T : aM} {K : List Kt} {fr : Fr} {S : St} {d t : Nat} {gb : Bool} {l : List aA}
def dm{op:bC}{q:Option PV}(h:bf T fr S op=ck S q):aF T (.ops (⟨some d,op,some (t,gb)⟩::l)::K) fr S=ob (cc (fr t) gb q) fun v=>aF T (.ops l::K) (upd fr d v) S:=by
 rw[jK];cases hv:fr t<;>try rfl
 ·rename_i c;rw[aCX];cases c<;>cases gb<;>simp only[aC6,aC7,aC4,aC5,aC2,aC3,if_true,oK,bg,Bool.true_eq_false,if_false]<;>first|rfl|exact dc h
 ·rename_i vs;cases vs<;>rfl
@[simp]def aMC{x:aG}:aF T (.ops (⟨some d,.mov x,some (t,gb)⟩::l)::K) fr S=ob (cc (fr t) gb (some (ev fr x))) fun v=>aF T (.ops l::K) (upd fr d v) S:=dm rfl
@[simp]def aMD{t':Nat}{x:aG}:aF T (.ops (⟨some d,.mkif t' x,some (t,gb)⟩::l)::K) fr S=ob (cc (fr t) gb (some (.iface t' (ev fr x)))) fun v=>aF T (.ops l::K) (upd fr d v) S:=dm rfl
@[simp]def aME{f:Nat}{caps:List aG}:aF T (.ops (⟨some d,.mkfn f caps,some (t,gb)⟩::l)::K) fr S=ob (cc (fr t) gb (some (.fn f (caps.map (ev fr))))) fun v=>aF T (.ops l::K) (upd fr d v) S:=dm rfl
@[simp]def aMF{c a b:aG}:aF T (.ops (⟨some d,.pick c a b,some (t,gb)⟩::l)::K) fr S=ob (cc (fr t) gb (bZ (ev fr c) (ev fr a) (ev fr b))) fun v=>aF T (.ops l::K) (upd fr d v) S:=dm rfl
@[simp]def aMG{o:BinOp}{x y:aG}:aF T (.ops (⟨some d,.arith o x y,some (t,gb)⟩::l)::K) fr S=ob (cc (fr t) gb (arith o (ev fr x) (ev fr y))) fun v=>aF T (.ops l::K) (upd fr d v) S:=dm rfl
@[simp]def aMH{o:UnOp}{x:aG}:aF T (.ops (⟨some d,.un o x,some (t,gb)⟩::l)::K) fr S=ob (cc (fr t) gb (unOp o (ev fr x))) fun v=>aF T (.ops l::K) (upd fr d v) S:=dm rfl
@[simp]def aMI{neg:Bool}{k:NK}{x:aG}:aF T (.ops (⟨some d,.eqn neg k x,some (t,gb)⟩::l)::K) fr S=ob (cc (fr t) gb (fH neg k (ev fr x))) fun v=>aF T (.ops l::K) (upd fr d v) S:=dm rfl
@[simp]def aMJ{x:aG}:aF T (.ops (⟨some d,.nilck x,some (t,gb)⟩::l)::K) fr S=ob (cc (fr t) gb (fU (ev fr x))) fun v=>aF T (.ops l::K) (upd fr d v) S:=dm (by simp only[bf,aH,aQ];rfl)
@[simp]def aMK{neg:Bool}{n:Nat}{x y:aG}:aF T (.ops (⟨some d,.eqs neg n x y,some (t,gb)⟩::l)::K) fr S=ob (cc (fr t) gb (yx neg n (ev fr x) (ev fr y))) fun v=>aF T (.ops l::K) (upd fr d v) S:=dm (by simp only[bf,aH,aQ];rfl)
@[simp]def aML{k:IntKind}{x:aG}:aF T (.ops (⟨some d,.toInt k x,some (t,gb)⟩::l)::K) fr S=ob (cc (fr t) gb (gY k (ev fr x))) fun v=>aF T (.ops l::K) (upd fr d v) S:=dm (by simp only[bf,aH,aQ];rfl)
@[simp]def aMM{x:aG}:aF T (.ops (⟨some d,.toStr x,some (t,gb)⟩::l)::K) fr S=ob (cc (fr t) gb (fI (ev fr x))) fun v=>aF T (.ops l::K) (upd fr d v) S:=dm rfl
@[simp]def aMN{z:List PV}{ps:List (Nat×Nat×aG)}:aF T (.ops (⟨some d,.build z ps,some (t,gb)⟩::l)::K) fr S=ob (cc (fr t) gb (aQ fr (.build z ps))) fun v=>aF T (.ops l::K) (upd fr d v) S:=dm rfl
@[simp]def aMO{i:Nat}{x:aG}:aF T (.ops (⟨some d,.extract i x,some (t,gb)⟩::l)::K) fr S=ob (cc (fr t) gb (gZ i (ev fr x))) fun v=>aF T (.ops l::K) (upd fr d v) S:=dm (by simp only[bf,aH,aQ];rfl)
@[simp]def aMP{t':Nat}{ok:Bool}{z:PV}{x:aG}:aF T (.ops (⟨some d,.assert t' ok z x,some (t,gb)⟩::l)::K) fr S=ob (cc (fr t) gb (gG t' ok z (ev fr x))) fun v=>aF T (.ops l::K) (upd fr d v) S:=dm (by simp only[bf,aH,aQ];rfl)
@[simp]def aMQ{x i:aG}:aF T (.ops (⟨some d,.idxs x i,some (t,gb)⟩::l)::K) fr S=ob (cc (fr t) gb (dZ (ev fr x) (ev fr i))) fun v=>aF T (.ops l::K) (upd fr d v) S:=dm (by simp only[bf,aH,aQ];rfl)
@[simp]def aMR{sz:Nat}{lo hi:Option aG}{x:aG}:aF T (.ops (⟨some d,.slc sz lo hi x,some (t,gb)⟩::l)::K) fr S=ob (cc (fr t) gb (dk sz (bj fr lo) (bj fr hi) (ev fr x))) fun v=>aF T (.ops l::K) (upd fr d v) S:=dm (by simp only[bf,aH,aQ];rfl)
@[simp]def aMS{off:Nat}{x:aG}:aF T (.ops (⟨some d,.faddr off x,some (t,gb)⟩::l)::K) fr S=ob (cc (fr t) gb (gH off (ev fr x))) fun v=>aF T (.ops l::K) (upd fr d v) S:=dm (by simp only[bf,aH,aQ];rfl)
@[simp]def aMT{sz:Nat}{x i:aG}:aF T (.ops (⟨some d,.iaddr sz x i,some (t,gb)⟩::l)::K) fr S=ob (cc (fr t) gb (cb sz (ev fr x) (ev fr i))) fun v=>aF T (.ops l::K) (upd fr d v) S:=dm (by simp only[bf,aH,aQ];rfl)
@[simp]def aMU{len sz:Nat}{x i:aG}:aF T (.ops (⟨some d,.iaddra len sz x i,some (t,gb)⟩::l)::K) fr S=ob (cc (fr t) gb (da len sz (ev fr x) (ev fr i))) fun v=>aF T (.ops l::K) (upd fr d v) S:=dm (by simp only[bf,aH,aQ];rfl)
@[simp]def aMV {st:Bool} {x:aG}:aF T (.ops (⟨some d,.len st x,some (t,gb)⟩::l)::K) fr S=ob (cc (fr t) gb (dl st (ev fr x))) fun v=>aF T (.ops l::K) (upd fr d v) S:=dm (by have h:bf T fr S (.len st x)=ck S (aQ fr (.len st x)):=by {cases st<;>rfl};rw[h,QD])
@[simp]def aMW{mx:Bool}{x y:aG}:aF T (.ops (⟨some d,.mnmx mx x y,some (t,gb)⟩::l)::K) fr S=ob (cc (fr t) gb (db mx (ev fr x) (ev fr y))) fun v=>aF T (.ops l::K) (upd fr d v) S:=dm (by simp only[bf,aH,aQ];rfl)
@[simp]def aMX{d:Option Nat}{n:Nat}{a v:aG}:aF T (.ops (⟨d,.store n a v,some (t,gb)⟩::l)::K) fr S=fC (fr t) gb (aF T (.ops (⟨d,.store n a v,none⟩::l)::K) fr S) (aF T (.ops l::K) (aO fr d (.tup [])) S):=jK
@[simp]def aMY{d:Option Nat}{ro:Bool}{x:aG}:aF T (.ops (⟨d,.box ro x,some (t,gb)⟩::l)::K) fr S=fC (fr t) gb (aF T (.ops (⟨d,.box ro x,none⟩::l)::K) fr S) (aF T (.ops l::K) (aO fr d (.tup [])) S):=jK
@[simp]def aMZ{d:Option Nat}{ro:Bool}{z:List PV}:aF T (.ops (⟨d,.alloc ro z,some (t,gb)⟩::l)::K) fr S=fC (fr t) gb (aF T (.ops (⟨d,.alloc ro z,none⟩::l)::K) fr S) (aF T (.ops l::K) (aO fr d (.tup [])) S):=jK
@[simp]def aM0{d:Option Nat}{ro:Bool}{ze:PV}{n:Nat}{ps:List (Nat×aG)}:aF T (.ops (⟨d,.bsl ro ze n ps,some (t,gb)⟩::l)::K) fr S=fC (fr t) gb (aF T (.ops (⟨d,.bsl ro ze n ps,none⟩::l)::K) fr S) (aF T (.ops l::K) (aO fr d (.tup [])) S):=jK
@[simp]def aM1{d:Option Nat}{sz b:Nat}{c:aG}:aF T (.ops (⟨d,.mks sz b c,some (t,gb)⟩::l)::K) fr S=fC (fr t) gb (aF T (.ops (⟨d,.mks sz b c,none⟩::l)::K) fr S) (aF T (.ops l::K) (aO fr d (.tup [])) S):=jK
@[simp]def aM2{d:Option Nat}{sz b:Nat}{s x:aG}:aF T (.ops (⟨d,.app sz b s x,some (t,gb)⟩::l)::K) fr S=fC (fr t) gb (aF T (.ops (⟨d,.app sz b s x,none⟩::l)::K) fr S) (aF T (.ops l::K) (aO fr d (.tup [])) S):=jK
@[simp]def aM3{d:Option Nat}{sz b:Nat}{s x:aG}:aF T (.ops (⟨d,.gapp sz b s x,some (t,gb)⟩::l)::K) fr S=fC (fr t) gb (aF T (.ops (⟨d,.gapp sz b s x,none⟩::l)::K) fr S) (aF T (.ops l::K) (aO fr d (.tup [])) S):=jK
@[simp]def aM4{d:Option Nat}{m:CM}{f:Nat}{xs:List aG}:aF T (.ops (⟨d,.call m f xs,some (t,gb)⟩::l)::K) fr S=fC (fr t) gb (aF T (.ops (⟨d,.call m f xs,none⟩::l)::K) fr S) (aF T (.ops l::K) (aO fr d (.tup [])) S):=jK
@[simp]def aM5{d:Option Nat}{m:CM}{x:aG}{xs:List aG}:aF T (.ops (⟨d,.callv m x xs,some (t,gb)⟩::l)::K) fr S=fC (fr t) gb (aF T (.ops (⟨d,.callv m x xs,none⟩::l)::K) fr S) (aF T (.ops l::K) (aO fr d (.tup [])) S):=jK
def aC8{ag:Bool}{n:Nat}{mix:Bool}{x:aG}:bf T fr S (.load ag n mix x)=ck S (if mix then(match ev fr x with|.ref cs=>ap ag n cs|_=>none)else cO S ag n (ev fr x)):=by
 cases mix
 ·simp only[bf,aH,bg,if_false];cases ev fr x<;>simp only[cO]<;>try rfl
  case ptr id off=>
   cases h:S.objs[id]? with
   |none=>rfl
   |some cs=>cases h2:ap ag n (cs.drop off)<;>simp[h2,ck]
 ·rfl
@[simp]def aM6{ag:Bool}{n:Nat}{mix:Bool}{x:aG}:aF T (.ops (⟨some d,.load ag n mix x,some (t,gb)⟩::l)::K) fr S=ob (cc (fr t) gb (if mix then(match ev fr x with|.ref cs=>ap ag n cs|_=>none)else cO S ag n (ev fr x))) fun v=>aF T (.ops l::K) (upd fr d v) S:=dm aC8
@[simp 1100] def aM7 {f:Nat}{xs:List aG}:aF T (.ops (⟨some d,.call .pur f xs,some (t,gb)⟩::l)::K) fr S=ob (cc (fr t) gb (gI T f (xs.map (ev fr)))) fun v=>aF T (.ops l::K) (upd fr d v) S:=by
 refine dm ?_;show cE (aS T) .pur f _ S=_;rw[NA];unfold gI;split<;>rfl
end
@[simp]def aM8{T:aM}{f:Nat}{args:List PV}{S:St}:cE (aS T) .std f args S=aS T f args S:=rfl
@[simp]def aM9{S:St}{v:PV}:ck S (some v)=some (v,S):=rfl
@[simp]def aNa{S:St}:ck S none=none:=rfl
@[simp]def aC9{r:PV}{S:St}:rZ (some (r,S))=if r.free then some r.frz else none:=rfl
def qW{T:aM}{f:Nat}{args:List PV}{r:PV}{S:St}(h:aS T f args bF=some (r,S))(hf:r.free=true):ef T f args=some r.frz:=by
 rw[ef,h,aC9,if_pos hf]
def QF{T:aM}{f:Nat}{c:aT}(hf:T.fn f=some (.code c)){args:List PV}{S:St}{x:PV×St}(ha:args.length=c.params)
  (h:ob (aF T [.code c.body] (bX args) S) (fun y=>ob (bb y.1 y.2 c.results) fun vs=>some (ac c.raw S y.2 (bP vs)))=some x):aS T f args S=some x:=by
 refine Vl c hf ha ?_
 cases hg:aF T [.code c.body] (bX args) S with
 |none=>rw[hg]at h;cases h
 |some y=>
  rw[hg]at h;simp only[oK]at h;simp only[tz]
  cases hr:bb y.1 y.2 c.results with
  |none=>rw[hr]at h;cases h
  |some vs=>rw[hr]at h;exact h
attribute [simp] bX bb hI bP
@[simp]def aNb(S:St)(sz:Nat)(es:List PV):(dF S sz es).1=.sl (some (S.tips.length,es.length)) es []:=rfl
@[simp]def aNc(S:St)(sz:Nat)(es:List PV):(dF S sz es).2.objs=S.objs:=rfl
@[simp]def aNd(S:St)(sz:Nat)(es:List PV):(dF S sz es).2.tips=S.tips++[(es.length,sz)]:=rfl
def bT{n:Int}(h1:-9223372036854775808≤n)(h2:n<9223372036854775808):IntKind.i64.wrap n=n:=by
 have e:IntKind.i64.wrap n=if n%18446744073709551616≥9223372036854775808 then n%18446744073709551616-18446744073709551616 else n%18446744073709551616:=by
  simp[IntKind.wrap,IntKind.bits,IntKind.signed]
 rw[e];split<;>omega
def QH{n:Int}(h1:0≤n)(h2:n<256):IntKind.u8.wrap n=n:=by
 have e:IntKind.u8.wrap n=n%256:=by
  simp[IntKind.wrap,IntKind.bits,IntKind.signed]
 rw[e];omega
def qX{a:Nat}(h:a<9223372036854775807):IntKind.i64.wrap ((a:Int)+1)=((a+1:Nat):Int):=by
 rw[bT]<;>omega
def aDa{S1:St}{r r':PV}(h:aj S1.objs 0 dJ r=some r'):ac false bF S1 r=(r'.frz,bF):=by
 unfold ac;simp only[bg,if_false];have h0:bF.objs.length=0:=rfl;have h1:bF.tips.length=0:=rfl;rw[h0,h,h1];simp[PV.beqLL,bF]
@[simp]def aNe{S1:St}{r:PV}(h:r.free=true):ac false bF S1 r=(r.frz,bF):=by
 refine aDa ?_;unfold dJ aj;rw[if_pos h]
def tP{b:Bool}{S S1:St}{r:PV}(h1:S1.objs.length=S.objs.length)(h2:S1.tips=S.tips)(hf:r.free=true)(hz:r.frz=r)(hq:∀l m:List (List PV),PV.beqLL l m=true→l=m):ac b S S1 r=(r,S1):=by
 unfold ac;have hs:aj S1.objs S.objs.length dJ r=some r:=by unfold dJ aj;rw[if_pos hf]
 have ht:S1.objs.take S.objs.length=S1.objs:=by rw[←h1];simp
 have ht2:S1.tips.take S.tips.length=S1.tips:=by rw[h2];simp
 rw[hs,ht,ht2];split
 ·rfl
 ·simp only[hz];split
  ·rename_i h;rw[←hq _ _ h]
  ·split<;>rfl
def Acc(sz:Nat)(S:St)(v:PV)(es:List PV):Prop:=
 (v=.nils∧es=[])∨∃id,v=.sl (some (id,es.length)) es []∧S.tips[id]?=some (es.length,sz)
end Ps
