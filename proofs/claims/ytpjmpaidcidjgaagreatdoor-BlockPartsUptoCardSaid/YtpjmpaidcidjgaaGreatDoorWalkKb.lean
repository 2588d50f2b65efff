/- Rules for walking a function by rewriting. -/
import Derived.Test.YtpjmpaidcidjgaaGreatDoorDefsKb
import Derived.Test.YtpjmpaidcidjgaaGreatDoorGoKb
set_option linter.defProp false
namespace Ps
open Go
def aT{l m:List aA}(h:l=m)(T:aV)(K:List Kt)(fr:Fr)(S:St):aE T (.ops l::K) fr S=aE T (.ops m::K) fr S:=by rw[h]
def bY{l m:aS}(h:l=m)(T:aV)(K:List Kt)(fr:Fr)(S:St):aE T (.code l::K) fr S=aE T (.code m::K) fr S:=by rw[h]
abbrev aD(a b:Nat)(r:List aA):aS:=.clr [(a,b)] (.region r)
abbrev af(r:List aA):aS:=.region r
abbrev aB(a b:aS):aS:=.seq a b
def aC{l m:List aA}{p:Prop}(h:l=m)(g:p):(∀(T:aV) (K:List Kt) (fr:Fr) (S:St),aE T (.ops l::K) fr S=aE T (.ops m::K) fr S)∧p:=⟨aT h,g⟩
abbrev V(n:Nat):aH:=.tmp n
abbrev I(n:Int):aH:=.cst (.int .i64 n)
abbrev ck:aH:=.cst (.bool true)
abbrev bR:aH:=.cst (.bool false)
abbrev Q(d:Nat)(op:bT):aA:=⟨some d,op,none⟩
abbrev QN(op:bT):aA:=⟨none,op,none⟩
abbrev QG(d:Option Nat)(op:bT)(t:Nat)(b:Bool):aA:=⟨d,op,some (t,b)⟩
abbrev M(d s:Nat):aA:=⟨some d,.mov (.tmp s),none⟩
abbrev bj(d s:Nat):aA:=⟨some d,.nilck (.tmp s),none⟩
abbrev FA(d k s:Nat):aA:=⟨some d,.faddr k (.tmp s),none⟩
abbrev LD(d s:Nat):aA:=⟨some d,.load false 1 false (.tmp s),none⟩
abbrev EX(d k s:Nat):aA:=⟨some d,.extract k (.tmp s),none⟩
@[simp]def aLZ:PV.und.cells=[PV.und]:=rfl
@[simp]def aL0:PV.und.one=false:=rfl
@[simp]def EA(k:IntKind)(n:Int):(PV.int k n).cells=[(PV.int k n)]:=rfl
@[simp]def aL1(k:IntKind)(n:Int):(PV.int k n).one=true:=rfl
@[simp]def aL2(b:Bool):(PV.bool b).cells=[(PV.bool b)]:=rfl
@[simp]def aL3(b:Bool):(PV.bool b).one=true:=rfl
@[simp]def aL4(s:List UInt8):(PV.str s).cells=[(PV.str s)]:=rfl
@[simp]def aL5(s:List UInt8):(PV.str s).one=true:=rfl
@[simp]def aL6:PV.nilp.cells=[PV.nilp]:=rfl
@[simp]def aL7:PV.nilp.one=true:=rfl
@[simp]def aL8:PV.nils.cells=[PV.nils]:=rfl
@[simp]def aL9:PV.nils.one=true:=rfl
@[simp]def aMa:PV.nili.cells=[PV.nili]:=rfl
@[simp]def aMb:PV.nili.one=true:=rfl
@[simp]def aMc:PV.nilf.cells=[PV.nilf]:=rfl
@[simp]def aMd:PV.nilf.one=true:=rfl
@[simp]def aMe(i o:Nat):(PV.ptr i o).cells=[(PV.ptr i o)]:=rfl
@[simp]def aMf(i o:Nat):(PV.ptr i o).one=true:=rfl
@[simp]def aMg(cs:List PV):(PV.ref cs).cells=[(PV.ref cs)]:=rfl
@[simp]def aMh(cs:List PV):(PV.ref cs).one=true:=rfl
@[simp]def aMi(t:Option (Nat×Nat))(a b:List PV):(PV.sl t a b).cells=[(PV.sl t a b)]:=rfl
@[simp]def aMj(t:Option (Nat×Nat))(a b:List PV):(PV.sl t a b).one=true:=rfl
@[simp]def aMk(i o n s:Nat):(PV.osl i o n s).cells=[(PV.osl i o n s)]:=rfl
@[simp]def aMl(i o n s:Nat):(PV.osl i o n s).one=true:=rfl
@[simp]def aMm:PV.emp.cells=[PV.emp]:=rfl
@[simp]def aMn:PV.emp.one=true:=rfl
@[simp]def aMo(t:Nat)(v:PV):(PV.iface t v).cells=[(PV.iface t v)]:=rfl
@[simp]def aMp(t:Nat)(v:PV):(PV.iface t v).one=true:=rfl
@[simp]def aMq(cs:List PV):(PV.agg cs).cells=cs:=rfl
@[simp]def aMr(cs:List PV):(PV.agg cs).one=false:=rfl
@[simp]def aMs(cs:List PV):(PV.tup cs).cells=[(PV.tup cs)]:=rfl
@[simp]def aMt(cs:List PV):(PV.tup cs).one=false:=rfl
@[simp]def aMu(f:Nat)(cs:List PV):(PV.fn f cs).cells=[(PV.fn f cs)]:=rfl
@[simp]def aMv(f:Nat)(cs:List PV):(PV.fn f cs).one=true:=rfl
@[simp]def aMw:PV.nilm.cells=[PV.nilm]:=rfl
@[simp]def aMx:PV.nilm.one=true:=rfl
@[simp]def aMy(i:Nat):(PV.hnd i).cells=[(PV.hnd i)]:=rfl
@[simp]def aMz(i:Nat):(PV.hnd i).one=true:=rfl
@[simp]def aMA(i:Nat):(PV.map i).cells=[(PV.map i)]:=rfl
@[simp]def aMB(i:Nat):(PV.map i).one=true:=rfl
@[simp]def aMC(f:Nat)(cs:List PV):(PV.bfn f cs).cells=[(PV.bfn f cs)]:=rfl
@[simp]def aMD(f:Nat)(cs:List PV):(PV.bfn f cs).one=true:=rfl
attribute [simp] PV.free PV.freeL PV.frz PV.frzL
mutual
theorem Uw:∀v:PV,PV.beq v v=true
 |.und=>rfl
 |.int k n=>by simp[PV.beq]
 |.bool b=>by simp[PV.beq]
 |.str s=>by simp[PV.beq]
 |.nilp=>rfl
 |.nils=>rfl
 |.nili=>rfl
 |.nilf=>rfl
 |.ptr i o=>by simp[PV.beq]
 |.ref cs=>by simp[PV.beq,mQ cs]
 |.sl t a b=>by simp[PV.beq,mQ a,mQ b]
 |.osl i o n s=>by simp[PV.beq]
 |.emp=>rfl
 |.iface t v=>by simp[PV.beq,Uw v]
 |.agg cs=>by simp[PV.beq,mQ cs]
 |.tup cs=>by simp[PV.beq,mQ cs]
 |.fn f cs=>by simp[PV.beq,mQ cs]
 |.nilm=>rfl
 |.map i=>by simp[PV.beq]
 |.hnd i=>by simp[PV.beq]
 |.bfn f cs=>by simp[PV.beq,mQ cs]
theorem mQ:∀l:List PV,PV.beqL l l=true
 | []=>rfl
 |v::l=>by simp[PV.beqL,Uw v,mQ l]
end
theorem EB:∀l:List (List PV),PV.beqLL l l=true
 | []=>rfl
 |v::l=>by simp[PV.beqLL,mQ v,EB l]
def ob{α β:Type}:Option α→(α→Option β)→Option β
 |some x,f=>f x
 |none,_=>none
@[simp]def rJ{α β:Type}(x:α)(f:α→Option β):ob (some x) f=f x:=rfl
@[simp]def aME{α β:Type}(f:α→Option β):ob none f=none:=rfl
@[congr]def aMF{α β:Type}{a a':Option α}{f:α→Option β}(h:a=a'):ob a f=ob a' f:=by rw[h]
@[congr]def aMG{T:aV}{K:List Kt}{fr fr':Fr}{S S':St}(h1:fr=fr')(h2:S=S'):aE T K fr S=aE T K fr' S':=by rw[h1,h2]
@[congr]def aMH{α:Type}{v v':PV}{a b:Option α}(h:v=v'):br v a b=br v' a b:=by rw[h]
@[congr]def aMI{α:Type}{v v':PV}{c:Bool}{a b:Option α}(h:v=v'):fe v c a b=fe v' c a b:=by rw[h]
@[simp]def aMJ(fr:Fr)(d:Nat)(v:PV)(t:Nat):upd fr d v t=cond (t==d) v (fr t):=rfl
@[simp]def aMK(fr:Fr):clrs [] fr=fr:=rfl
@[simp]def aML(a b:Nat)(l:List (Nat×Nat))(fr:Fr):clrs ((a,b)::l) fr=clrs l (ft a b fr):=rfl
@[simp]def aMM(lo hi t:Nat):ig lo hi t=((lo-t==0)&&(t+1-hi==0)):=rfl
@[simp]def aMN(lo hi:Nat)(fr:Fr)(t:Nat):ft lo hi fr t=cond (ig lo hi t) .und (fr t):=rfl
def Ux(lo hi:Nat)(fr:Fr)(d:Nat)(v:PV):ft lo hi (upd fr d v)=cond (ig lo hi d) (ft lo hi fr) (upd (ft lo hi fr) d v):=by
 funext t
 cases h:(ig lo hi d)with
 |true=>
  simp only[cond_true,ft,upd]
  cases h2:(ig lo hi t)with
  |true=>rfl
  |false=>
   have:(t==d)=false:=by
    rw[pR];intro e;rw[beq_iff_eq]at e;subst e;rw[h]at h2;cases h2
   simp[this]
 |false=>
  simp only[cond_false,ft,upd]
  cases h2:(ig lo hi t)with
  |true=>
   have:(t==d)=false:=by
    rw[pR];intro e;rw[beq_iff_eq]at e;subst e;rw[h]at h2;cases h2
   simp[this]
  |false=>simp
@[simp]def aMO(lo hi:Nat)(fr:Fr)(d:Nat)(v:PV)(h:(ig lo hi d)=true):ft lo hi (upd fr d v)=ft lo hi fr:=by rw[Ux,h];rfl
@[simp]def aMP(lo hi:Nat)(fr:Fr)(d:Nat)(v:PV)(h:(ig lo hi d)=false):ft lo hi (upd fr d v)=upd (ft lo hi fr) d v:=by rw[Ux,h];rfl
@[simp]def aMQ(lo hi:Nat)(fr:Fr):ft lo hi (ft lo hi fr)=ft lo hi fr:=by
 funext t;simp only[ft];cases(ig lo hi t)<;>rfl
@[simp]def aMR(fr:Fr)(d:Nat)(v:PV):aP fr (some d) v=upd fr d v:=rfl
@[simp]def aMS(fr:Fr)(v:PV):aP fr none v=fr:=rfl
@[simp]def aMT(fr:Fr)(t:Nat):ev fr (.tmp t)=fr t:=rfl
@[simp]def aMU(fr:Fr)(v:PV):ev fr (.cst v)=v:=rfl
@[simp]def aMV(fr:Fr):bp fr none=none:=rfl
@[simp]def aMW(fr:Fr)(x:aH):bp fr (some x)=some (ev fr x):=rfl
attribute [simp] Ci aCe aCf aCg aCh aCi aCj aCk aCo aCl aCm aCn Sf aCr aCp aCq gc
def aHS{α:Type}{a b:Option α}{c d:Bool}:fe (.bool c) d a b=if c=d then a else b:=by cases c<;>cases d<;>rfl
@[simp]def aMX{α:Type}{a b:Option α}{c:Bool}:fe (.bool c) true a b=br (.bool c) a b:=by cases c<;>rfl
@[simp]def aMY{α:Type}{a b:Option α}{c:Bool}:fe (.bool c) false a b=br (.bool c) b a:=by cases c<;>rfl
@[simp]def aMZ{α:Type}{a b:Option α}{d:Bool}:fe (.tup []) d a b=b:=rfl
def iE:PV→Option PV
 |.ptr i o=>some (.ptr i o)
 |.ref cs=>some (.ref cs)
 |.iface t v=>some (.iface t v)
 |.fn f cs=>some (.fn f cs)
 |.bfn f cs=>some (.bfn f cs)
 |_=>none
def fI(neg isb:Bool)(n:Nat):PV→PV→Option PV
 |.agg a,.agg b=>if a.length=n∧b.length=n then(match eJ isb a b with|some r=>some (fu neg r)|none=>none)else none
 |_,_=>none
def jP(k:IntKind):PV→Option PV
 |.int _ n=>some (.int k (k.wrap n))
 |_=>none
def jQ:PV→Option PV
 |.str s=>some (.str s)
 |_=>none
def jR(ag:Bool)(off n:Nat):PV→Option PV
 |.agg cs=>bG ag n (cs.drop off)
 |_=>none
def jS(i:Nat):PV→Option PV
 |.tup vs=>vs[i]?
 |_=>none
def im(t:Nat)(ok:Bool)(z:PV):PV→Option PV
 |.nili=>if ok then some (.tup [z,.bool false])else none
 |.iface u v=>if u=t then some (if ok then .tup [v,.bool true]else v)else(if ok then some (.tup [z,.bool false])else none)
 |_=>none
def fA:PV→PV→Option PV
 |.str s,.int _ j=>if 0≤j then(match s[j.toNat]? with|some b=>some (.int .u8 b.toNat)|none=>none)else none
 |_,_=>none
def fJ(len n:Nat)(ag:Bool):PV→PV→Option PV
 |.agg cs,.int _ j=>if 0≤j∧j<len then bG ag n (cs.drop (j.toNat*n))else none
 |_,_=>none
def jT(lo hi:Option PV):PV→Option PV
 |.str s=>match dE s.length s.length lo hi with
  |some (l,h)=>some (.str ((s.take h).drop l))
  |none=>none
 |_=>none
def eM(sz:Nat)(lo hi:Option PV):PV→Option PV
 |.nils=>match dE 0 0 lo hi with|some _=>some .nils|none=>none
 |.sl tip es sp=>if !jF sz (es++sp)then none else match dE es.length (es.length+sp.length) lo hi with
  |some (l,h)=>some (.sl (if h=es.length then tip else none) (((es++sp).take h).drop l) ((es++sp).drop h))
  |none=>none
 |.osl id off len sz'=>if sz'=sz∧0<sz then(match dE len len lo hi with
  |some (l,h)=>if l=0∨l<h then some (.osl id (off+l*sz) (h-l) sz)else none
  |none=>none)else none
 |.emp=>match dE 0 0 lo hi with|some _=>some .emp|none=>none
 |_=>none
def EC(len sz:Nat)(lo hi:Option PV):PV→Option PV
 |.ptr id off=>match dE len len lo hi with
  |some (l,h)=>if l<h then some (.osl id (off+l*sz) (h-l) 0)else none
  |none=>none
 |.ref cs=>if sz=1∧cs.length=len∧cs.all PV.one=true then(match dE len len lo hi with
  |some (l,h)=>if l<h then some (.sl none ((cs.take h).drop l) (cs.drop h))else none
  |none=>none)else none
 |_=>none
def io(off:Nat):PV→Option PV
 |.ptr id o=>some (.ptr id (o+off))
 |.ref cs=>if off≤cs.length then some (.ref (cs.drop off))else none
 |_=>none
def ca(sz:Nat):PV→PV→Option PV
 |.sl _ es _,.int _ j=>if 0≤j then(match es[j.toNat]? with|some e=>if e.cells.length=sz then some (.ref e.cells)else none|none=>none)else none
 |.osl id off n _,.int _ j=>if 0≤j∧j<n then some (.ptr id (off+j.toNat*sz))else none
 |_,_=>none
def fB(len sz:Nat):PV→PV→Option PV
 |.ptr id off,.int _ j=>if 0≤j∧j<len then some (.ptr id (off+j.toNat*sz))else none
 |.ref cs,.int _ j=>if 0≤j∧j<len∧j.toNat*sz≤cs.length then some (.ref (cs.drop (j.toNat*sz)))else none
 |_,_=>none
def eN(st:Bool):PV→Option PV
 |.str s=>if st then some (.int .i64 s.length)else none
 |.nils=>if st then none else some (.int .i64 0)
 |.sl _ es _=>if st then none else some (.int .i64 es.length)
 |.osl _ _ n _=>if st then none else some (.int .i64 n)
 |.emp=>if st then none else some (.int .i64 0)
 |_=>none
def fC(mx:Bool):PV→PV→Option PV
 |.int k a,.int l b=>if k=l then some (.int k (if mx then(if b>a then b else a)else(if b<a then b else a)))else none
 |_,_=>none
@[simp]def aM0{i o:Nat}:iE (.ptr i o)=some (.ptr i o):=rfl
@[simp]def aM1{cs:List PV}:iE (.ref cs)=some (.ref cs):=rfl
@[simp]def aM2{t:Nat}{v:PV}:iE (.iface t v)=some (.iface t v):=rfl
@[simp]def aM3{f:Nat}{cs:List PV}:iE (.fn f cs)=some (.fn f cs):=rfl
def ED(neg:Bool)(n:Nat):PV→PV→Option PV
 |.agg a,.agg b=>if a.length=n∧b.length=n then(match eJ false a b with|some r=>some (fu neg r)|none=>none)else none
 |_,_=>none
@[simp]def aM4{neg:Bool}{n:Nat}{a b:List PV}:ED neg n (.agg a) (.agg b)=if a.length=n∧b.length=n then(match eJ false a b with|some r=>some (fu neg r)|none=>none)else none:=rfl
@[simp]def aM5{neg isb:Bool}{n:Nat}{a b:List PV}:fI neg isb n (.agg a) (.agg b)=if a.length=n∧b.length=n then(match eJ isb a b with|some r=>some (fu neg r)|none=>none)else none:=rfl
@[simp]def aM6{k l:IntKind}{n:Int}:jP k (.int l n)=some (.int k (k.wrap n)):=rfl
@[simp]def aM7{s:List UInt8}:jQ (.str s)=some (.str s):=rfl
@[simp]def aM8{ag:Bool}{off n:Nat}{cs:List PV}:jR ag off n (.agg cs)=bG ag n (cs.drop off):=rfl
@[simp]def aM9{i:Nat}{vs:List PV}:jS i (.tup vs)=vs[i]?:=rfl
@[simp]def aNa{t:Nat}{ok:Bool}{z:PV}:im t ok z .nili=if ok then some (.tup [z,.bool false])else none:=rfl
@[simp]def aNb{t u:Nat}{ok:Bool}{z v:PV}:im t ok z (.iface u v)=if u=t then some (if ok then .tup [v,.bool true]else v)else(if ok then some (.tup [z,.bool false])else none):=rfl
@[simp]def Uy{s:List UInt8}{k:IntKind}{j:Int}:fA (.str s) (.int k j)=if 0≤j then(match s[j.toNat]? with|some b=>some (.int .u8 b.toNat)|none=>none)else none:=rfl
@[simp]def aNc{len n:Nat}{ag:Bool}{cs:List PV}{k:IntKind}{j:Int}:fJ len n ag (.agg cs) (.int k j)=if 0≤j∧j<len then bG ag n (cs.drop (j.toNat*n))else none:=rfl
@[simp]def aNd{lo hi:Option PV}{s:List UInt8}:jT lo hi (.str s)=match dE s.length s.length lo hi with|some (l,h)=>some (.str ((s.take h).drop l))|none=>none:=rfl
@[simp]def uC{sz:Nat}{lo hi:Option PV}:eM sz lo hi .nils=match dE 0 0 lo hi with|some _=>some .nils|none=>none:=rfl
@[simp]def uD{sz:Nat}{lo hi:Option PV}{tip:Option (Nat×Nat)}{es sp:List PV}:eM sz lo hi (.sl tip es sp)=if !jF sz (es++sp)then none else match dE es.length (es.length+sp.length) lo hi with
   |some (l,h)=>some (.sl (if h=es.length then tip else none) (((es++sp).take h).drop l) ((es++sp).drop h))
   |none=>none:=rfl
@[simp]def aNe{len sz:Nat}{lo hi:Option PV}{id off:Nat}:EC len sz lo hi (.ptr id off)=match dE len len lo hi with|some (l,h)=>if l<h then some (.osl id (off+l*sz) (h-l) 0)else none|none=>none:=rfl
@[simp]def aNf{sz:Nat}{lo hi:Option PV}{id off len:Nat}:eM sz lo hi (.osl id off len sz)=if 0<sz then(match dE len len lo hi with
  |some (l,h)=>if l=0∨l<h then some (.osl id (off+l*sz) (h-l) sz)else none
  |none=>none)else none:=by simp[eM]
@[simp]def aNg{sz:Nat}{lo hi:Option PV}:eM sz lo hi .emp=match dE 0 0 lo hi with|some _=>some .emp|none=>none:=rfl
def uE:PV→Option PV
 |.nils=>some .nils
 |.sl ..=>some .emp
 |.osl ..=>some .emp
 |.emp=>some .emp
 |_=>none
@[simp]def aNh:uE .nils=some .nils:=rfl
@[simp]def aNi{t:Option (Nat×Nat)}{a b:List PV}:uE (.sl t a b)=some .emp:=rfl
@[simp]def aNj{i o n s:Nat}:uE (.osl i o n s)=some .emp:=rfl
@[simp]def aNk:uE .emp=some .emp:=rfl
@[simp]def aNl{off id o:Nat}:io off (.ptr id o)=some (.ptr id (o+off)):=rfl
@[simp]def aNm{off:Nat}{cs:List PV}:io off (.ref cs)=if off≤cs.length then some (.ref (cs.drop off))else none:=rfl
@[simp]def aNn{sz:Nat}{tip:Option (Nat×Nat)}{es sp:List PV}{k:IntKind}{j:Int}:ca sz (.sl tip es sp) (.int k j)=if 0≤j then(match es[j.toNat]? with|some e=>if e.cells.length=sz then some (.ref e.cells)else none|none=>none)else none:=rfl
@[simp]def Uz{sz id off n s:Nat}{k:IntKind}{j:Int}:ca sz (.osl id off n s) (.int k j)=if 0≤j∧j<n then some (.ptr id (off+j.toNat*sz))else none:=rfl
@[simp]def aNo{len sz id off:Nat}{k:IntKind}{j:Int}:fB len sz (.ptr id off) (.int k j)=if 0≤j∧j<len then some (.ptr id (off+j.toNat*sz))else none:=rfl
@[simp]def aNp{len sz:Nat}{cs:List PV}{k:IntKind}{j:Int}:fB len sz (.ref cs) (.int k j)=if 0≤j∧j<len∧j.toNat*sz≤cs.length then some (.ref (cs.drop (j.toNat*sz)))else none:=rfl
@[simp]def aNq{s:List UInt8}:eN true (.str s)=some (.int .i64 s.length):=rfl
@[simp]def aNr:eN false .nils=some (.int .i64 0):=rfl
@[simp]def aHT{tip:Option (Nat×Nat)}{es sp:List PV}:eN false (.sl tip es sp)=some (.int .i64 es.length):=rfl
@[simp]def aNs{id off n s:Nat}:eN false (.osl id off n s)=some (.int .i64 n):=rfl
@[simp]def aNt:eN false .emp=some (.int .i64 0):=rfl
@[simp]def aNu{mx:Bool}{k:IntKind}{a b:Int}:fC mx (.int k a) (.int k b)=some (.int k (if mx then(if b>a then b else a)else(if b<a then b else a))):=by simp[fC]
def VA(fr:Fr)(st:Bool)(x:aH):aR fr (.len st x)=eN st (ev fr x):=by
 cases st<;>simp only[aR]<;>cases ev fr x<;>rfl
section
variable {T : aV} {K : List Kt} {fr : Fr} {S : St} {d : Option Nat} {l : List aA}
def VB{op:bT}:aE T (.ops (⟨d,op,none⟩::l)::K) fr S=ob (bf T fr S op) fun x=>aE T (.ops l::K) (aP fr d x.1) x.2:=by
 rw[Sg];cases bf T fr S op<;>rfl
def dX{op:bT}{q:Option PV}(h:bf T fr S op=dF S q):aE T (.ops (⟨d,op,none⟩::l)::K) fr S=ob q fun v=>aE T (.ops l::K) (aP fr d v) S:=by
 rw[VB,h];cases q<;>rfl
@[simp]def aNv {x:aH}:aE T (.ops (⟨d,.mov x,none⟩::l)::K) fr S=aE T (.ops l::K) (aP fr d (ev fr x)) S:=dX (q:=some (ev fr x)) rfl
@[simp]def aNw {t:Nat} {x:aH}:aE T (.ops (⟨d,.mkif t x,none⟩::l)::K) fr S=aE T (.ops l::K) (aP fr d (.iface t (ev fr x))) S:=dX (q:=some (.iface t (ev fr x))) rfl
@[simp]def aNx {f:Nat} {caps:List aH}:aE T (.ops (⟨d,.mkfn f caps,none⟩::l)::K) fr S=aE T (.ops l::K) (aP fr d (.fn f (caps.map (ev fr)))) S:=dX (q:=some (.fn f (caps.map (ev fr)))) rfl
def cJ(c a b:PV):Option PV:=match c with|.bool true=>some a|.bool false=>some b|_=>none
@[simp]def aNy{c a b:aH}:aE T (.ops (⟨d,.pick c a b,none⟩::l)::K) fr S=ob (cJ (ev fr c) (ev fr a) (ev fr b)) fun v=>aE T (.ops l::K) (aP fr d v) S:=dX rfl
@[simp]def aNz{o:BinOp}{x y:aH}:aE T (.ops (⟨d,.arith o x y,none⟩::l)::K) fr S=ob (arith o (ev fr x) (ev fr y)) fun v=>aE T (.ops l::K) (aP fr d v) S:=dX rfl
@[simp]def aNA{o:UnOp}{x:aH}:aE T (.ops (⟨d,.un o x,none⟩::l)::K) fr S=ob (unOp o (ev fr x)) fun v=>aE T (.ops l::K) (aP fr d v) S:=dX rfl
def fK(neg:Bool)(a b:PV):Option PV:=match a,b with|.bool a,.bool b=>some (fu neg (a==b))|_,_=>none
@[simp]def aNB{neg a b:Bool}:fK neg (.bool a) (.bool b)=some (fu neg (a==b)):=rfl
@[simp]def aNC{neg:Bool}{x y:aH}:aE T (.ops (⟨d,.eqb neg x y,none⟩::l)::K) fr S=ob (fK neg (ev fr x) (ev fr y)) fun v=>aE T (.ops l::K) (aP fr d v) S:=dX rfl
@[simp]def aND{b:Bool}:fu false b=.bool b:=rfl
@[simp]def aNE{b:Bool}:fu true b=.bool !b:=rfl
def gD(neg:Bool)(k:NK)(a:PV):Option PV:=match isNil k a with|some b=>some (fu neg b)|none=>none
@[simp]def aNF{neg:Bool}{k:NK}{x:aH}:aE T (.ops (⟨d,.eqn neg k x,none⟩::l)::K) fr S=ob (gD neg k (ev fr x)) fun v=>aE T (.ops l::K) (aP fr d v) S:=dX rfl
def EE{op:bT}(h:bf T fr S op=dF S (aR fr op)):aE T (.ops (⟨d,op,none⟩::l)::K) fr S=ob (aR fr op) fun v=>aE T (.ops l::K) (aP fr d v) S:=dX h
def eX:PV→Option PV
 |.nils=>some (.str [])
 |.emp=>some (.str [])
 |.sl _ es _=>match kG es with|some s=>some (.str s)|none=>none
 |_=>none
@[simp]def aNG{x:aH}:aE T (.ops (⟨d,.nilck x,none⟩::l)::K) fr S=ob (iE (ev fr x)) fun v=>aE T (.ops l::K) (aP fr d v) S:=dX (by simp only[bf,aG,aR];rfl)
@[simp]def aNH{neg isb:Bool}{n:Nat}{x y:aH}:aE T (.ops (⟨d,.eqa neg isb n x y,none⟩::l)::K) fr S=ob (fI neg isb n (ev fr x) (ev fr y)) fun v=>aE T (.ops l::K) (aP fr d v) S:=dX (by simp only[bf,aG,aR];rfl)
@[simp]def aNI{neg:Bool}{n:Nat}{x y:aH}:aE T (.ops (⟨d,.eqs neg n x y,none⟩::l)::K) fr S=ob (ED neg n (ev fr x) (ev fr y)) fun v=>aE T (.ops l::K) (aP fr d v) S:=dX (by simp only[bf,aG,aR];rfl)
@[simp]def aNJ{k:IntKind}{x:aH}:aE T (.ops (⟨d,.toInt k x,none⟩::l)::K) fr S=ob (jP k (ev fr x)) fun v=>aE T (.ops l::K) (aP fr d v) S:=dX (by simp only[bf,aG,aR];rfl)
@[simp]def aNK{x:aH}:aE T (.ops (⟨d,.strId x,none⟩::l)::K) fr S=ob (jQ (ev fr x)) fun v=>aE T (.ops l::K) (aP fr d v) S:=dX (by simp only[bf,aG,aR];rfl)
@[simp]def aNL{x:aH}:aE T (.ops (⟨d,.toStr x,none⟩::l)::K) fr S=ob (eX (ev fr x)) fun v=>aE T (.ops l::K) (aP fr d v) S:=EE rfl
@[simp]def aNM{ag:Bool}{off n:Nat}{x:aH}:aE T (.ops (⟨d,.field ag off n x,none⟩::l)::K) fr S=ob (jR ag off n (ev fr x)) fun v=>aE T (.ops l::K) (aP fr d v) S:=dX (by simp only[bf,aG,aR];rfl)
@[simp]def aNN{z:List PV}{ps:List (Nat×Nat×aH)}:aE T (.ops (⟨d,.build z ps,none⟩::l)::K) fr S=ob (aR fr (.build z ps)) fun v=>aE T (.ops l::K) (aP fr d v) S:=EE rfl
@[simp]def aNO{i:Nat}{x:aH}:aE T (.ops (⟨d,.extract i x,none⟩::l)::K) fr S=ob (jS i (ev fr x)) fun v=>aE T (.ops l::K) (aP fr d v) S:=dX (by simp only[bf,aG,aR];rfl)
@[simp]def aNP{t:Nat}{ok:Bool}{z:PV}{x:aH}:aE T (.ops (⟨d,.assert t ok z x,none⟩::l)::K) fr S=ob (im t ok z (ev fr x)) fun v=>aE T (.ops l::K) (aP fr d v) S:=dX (by simp only[bf,aG,aR];rfl)
@[simp]def aNQ{x i:aH}:aE T (.ops (⟨d,.idxs x i,none⟩::l)::K) fr S=ob (fA (ev fr x) (ev fr i)) fun v=>aE T (.ops l::K) (aP fr d v) S:=dX (by simp only[bf,aG,aR];rfl)
@[simp]def aNR{len n:Nat}{ag:Bool}{x i:aH}:aE T (.ops (⟨d,.idxa len n ag x i,none⟩::l)::K) fr S=ob (fJ len n ag (ev fr x) (ev fr i)) fun v=>aE T (.ops l::K) (aP fr d v) S:=dX (by simp only[bf,aG,aR];rfl)
@[simp]def aNS{lo hi:Option aH}{x:aH}:aE T (.ops (⟨d,.slcs lo hi x,none⟩::l)::K) fr S=ob (jT (bp fr lo) (bp fr hi) (ev fr x)) fun v=>aE T (.ops l::K) (aP fr d v) S:=dX (by simp only[bf,aG,aR];rfl)
@[simp]def aNT{sz:Nat}{lo hi:Option aH}{x:aH}:aE T (.ops (⟨d,.slc sz lo hi x,none⟩::l)::K) fr S=ob (eM sz (bp fr lo) (bp fr hi) (ev fr x)) fun v=>aE T (.ops l::K) (aP fr d v) S:=dX (by simp only[bf,aG,aR];rfl)
@[simp]def aNU{len sz:Nat}{lo hi:Option aH}{x:aH}:aE T (.ops (⟨d,.slca len sz lo hi x,none⟩::l)::K) fr S=ob (EC len sz (bp fr lo) (bp fr hi) (ev fr x)) fun v=>aE T (.ops l::K) (aP fr d v) S:=dX (by simp only[bf,aG,aR];rfl)
@[simp]def aNV{off:Nat}{x:aH}:aE T (.ops (⟨d,.faddr off x,none⟩::l)::K) fr S=ob (io off (ev fr x)) fun v=>aE T (.ops l::K) (aP fr d v) S:=dX (by simp only[bf,aG,aR];rfl)
@[simp]def aNW{x:aH}:aE T (.ops (⟨d,.emp3 x,none⟩::l)::K) fr S=ob (uE (ev fr x)) fun v=>aE T (.ops l::K) (aP fr d v) S:=dX (by simp only[bf,aG,aR];cases ev fr x<;>rfl)
@[simp]def aNX{sz:Nat}{x i:aH}:aE T (.ops (⟨d,.iaddr sz x i,none⟩::l)::K) fr S=ob (ca sz (ev fr x) (ev fr i)) fun v=>aE T (.ops l::K) (aP fr d v) S:=dX (by simp only[bf,aG,aR];rfl)
@[simp]def aNY{len sz:Nat}{x i:aH}:aE T (.ops (⟨d,.iaddra len sz x i,none⟩::l)::K) fr S=ob (fB len sz (ev fr x) (ev fr i)) fun v=>aE T (.ops l::K) (aP fr d v) S:=dX (by simp only[bf,aG,aR];rfl)
@[simp]def aNZ {st:Bool} {x:aH}:aE T (.ops (⟨d,.len st x,none⟩::l)::K) fr S=ob (eN st (ev fr x)) fun v=>aE T (.ops l::K) (aP fr d v) S:=dX (by have h:bf T fr S (.len st x)=dF S (aR fr (.len st x)):=by {cases st<;>rfl};rw[h,VA])
@[simp]def aN0{mx:Bool}{x y:aH}:aE T (.ops (⟨d,.mnmx mx x y,none⟩::l)::K) fr S=ob (fC mx (ev fr x) (ev fr y)) fun v=>aE T (.ops l::K) (aP fr d v) S:=dX (by simp only[bf,aG,aR];rfl)
def dD(S:St)(ag:Bool)(n:Nat):PV→Option PV
 |.ref cs=>bG ag n cs
 |.ptr id off=>match S.objs[id]? with|some cs=>bG ag n (cs.drop off)|none=>none
 |_=>none
@[simp]def aN1{ag:Bool}{n:Nat}{mix:Bool}{x:aH}:aE T (.ops (⟨d,.load ag n mix x,none⟩::l)::K) fr S=ob (if mix then(match ev fr x with|.ref cs=>bG ag n cs|_=>none)else dD S ag n (ev fr x)) fun v=>aE T (.ops l::K) (aP fr d v) S:=by
 cases mix
 ·refine dX ?_;simp only[bf,aG,cH,if_false];cases ev fr x<;>simp only[dD]<;>try rfl
  case ptr id off=>
   cases h:S.objs[id]? with
   |none=>rfl
   |some cs=>cases h2:bG ag n (cs.drop off)<;>simp[h2,dF]
 ·exact EE rfl
def EF(S:St)(ag:Bool)(n:Nat):PV→PV→Option PV
 |.ptr i _,.ptr id off=>if i=id then dD S ag n (.ptr id off)else none
 |_,_=>none
@[simp]def aN2{S:St}{ag:Bool}{n i o off:Nat}:EF S ag n (.ptr i o) (.ptr i off)=dD S ag n (.ptr i off):=if_pos rfl
@[simp]def aN3{b:Nat}{ag:Bool}{n:Nat}{x:aH}:aE T (.ops (⟨d,.loadb b ag n x,none⟩::l)::K) fr S=ob (EF S ag n (fr b) (ev fr x)) fun v=>aE T (.ops l::K) (aP fr d v) S:=by
 refine dX ?_;simp only[bf,aG];cases fr b<;>cases ev fr x<;>simp only[EF]<;>try rfl
 rename_i i o id off;by_cases hi:i=id
 ·subst hi;simp only[if_true,dD]
  cases h:S.objs[i]? with
  |none=>rfl
  |some cs=>cases h2:bG ag n (cs.drop off)<;>simp[h2,dF]
 ·simp only[if_neg hi];rfl
def di{op:bT}{q:Option (PV×St)}(h:bf T fr S op=q):aE T (.ops (⟨d,op,none⟩::l)::K) fr S=ob q fun x=>aE T (.ops l::K) (aP fr d x.1) x.2:=by rw[VB,h]
@[simp]def aN4{n:Nat}{a v:aH}:aE T (.ops (⟨d,.store n a v,none⟩::l)::K) fr S=ob (aG T (aN T) fr S (.store n a v)) fun x=>aE T (.ops l::K) (aP fr d x.1) x.2:=di rfl
@[simp]def aN5{q:List Nat}{n:Nat}{a v:aH}:aE T (.ops (⟨d,.stb q n a v,none⟩::l)::K) fr S=ob (aG T (aN T) fr S (.stb q n a v)) fun x=>aE T (.ops l::K) (aP fr d x.1) x.2:=di rfl
@[simp]def aN6{ro:Bool}{x:aH}:aE T (.ops (⟨d,.box ro x,none⟩::l)::K) fr S=ob (aG T (aN T) fr S (.box ro x)) fun x=>aE T (.ops l::K) (aP fr d x.1) x.2:=di rfl
@[simp]def aN7{ro:Bool}{z:List PV}:aE T (.ops (⟨d,.alloc ro z,none⟩::l)::K) fr S=ob (aG T (aN T) fr S (.alloc ro z)) fun x=>aE T (.ops l::K) (aP fr d x.1) x.2:=di rfl
@[simp]def aN8{ro:Bool}{ze:PV}{n:Nat}{ps:List (Nat×aH)}:aE T (.ops (⟨d,.bsl ro ze n ps,none⟩::l)::K) fr S=ob (aG T (aN T) fr S (.bsl ro ze n ps)) fun x=>aE T (.ops l::K) (aP fr d x.1) x.2:=di rfl
@[simp]def aN9{ro:Bool}{x:aH}:aE T (.ops (⟨d,.toBytes ro x,none⟩::l)::K) fr S=ob (aG T (aN T) fr S (.toBytes ro x)) fun x=>aE T (.ops l::K) (aP fr d x.1) x.2:=di rfl
@[simp]def aOa{sz b:Nat}{c:aH}:aE T (.ops (⟨d,.mks sz b c,none⟩::l)::K) fr S=ob (aG T (aN T) fr S (.mks sz b c)) fun x=>aE T (.ops l::K) (aP fr d x.1) x.2:=di rfl
def EG(sz bytes:Nat)(S:St)(s x:PV):Option (PV×St):=ob (eg S sz x) fun new=>if 0<sz then eh sz bytes S s new else none
@[simp]def aOb{S:St}{sz:Nat}:eg S sz .nils=some []:=rfl
@[simp]def aOc{S:St}{sz:Nat}:eg S sz .emp=some []:=rfl
@[simp]def aHU{S:St}{sz:Nat}{tip:Option (Nat×Nat)}{es sp:List PV}:eg S sz (.sl tip es sp)=if jF sz es then some es else none:=rfl
@[simp]def aOd{S:St}{sz:Nat}{s:List UInt8}:eg S sz (.str s)=if sz=1 then some (aI s)else none:=rfl
def EH(sz bytes:Nat)(S:St)(s x:PV):Option (PV×St):=ob (eg S sz x) fun new=>if 0<sz then gt sz bytes S s new else none
@[simp]def aOe{sz:Nat}:lg sz .nils=some []:=rfl
@[simp]def aHV{sz:Nat}{tip:Option (Nat×Nat)}{es sp:List PV}:lg sz (.sl tip es sp)=if jF sz es then some es else none:=rfl
@[simp]def aOf{sz:Nat}{s:List UInt8}:lg sz (.str s)=if sz=1 then some (aI s)else none:=rfl
@[simp]def aOg{sz:Nat}:jF sz []=true:=rfl
@[simp]def aOh{sz:Nat}{e:PV}{l:List PV}:jF sz (e::l)=(e.cells.length==sz):=rfl
@[simp]def aOi{sz bytes:Nat}{S:St}{s x:PV}:EG sz bytes S s x=ob (eg S sz x) fun new=>if 0<sz then eh sz bytes S s new else none:=rfl
@[simp]def aOj{sz bytes:Nat}{S:St}{s x:PV}:EH sz bytes S s x=ob (eg S sz x) fun new=>if 0<sz then gt sz bytes S s new else none:=rfl
@[simp]def aOk:aE T (.ops (⟨d,.mkm,none⟩::l)::K) fr S=ob (aG T (aN T) fr S .mkm) fun x=>aE T (.ops l::K) (aP fr d x.1) x.2:=di rfl
@[simp]def aOl{ks:Bool}{ok:Bool}{z:PV}{x k:aH}:aE T (.ops (⟨d,.mlk ks ok z x k,none⟩::l)::K) fr S=ob (aG T (aN T) fr S (.mlk ks ok z x k)) fun x=>aE T (.ops l::K) (aP fr d x.1) x.2:=di rfl
@[simp]def aOm{x:aH}:aE T (.ops (⟨d,.mlen x,none⟩::l)::K) fr S=ob (aG T (aN T) fr S (.mlen x)) fun x=>aE T (.ops l::K) (aP fr d x.1) x.2:=di rfl
@[simp]def aOn{ks:Bool}{x k v:aH}:aE T (.ops (⟨d,.mset ks x k v,none⟩::l)::K) fr S=ob (aG T (aN T) fr S (.mset ks x k v)) fun x=>aE T (.ops l::K) (aP fr d x.1) x.2:=di rfl
@[simp]def aOo{ar ok:Bool}{z:PV}{x k:aH}:aE T (.ops (⟨d,.plk ar ok z x k,none⟩::l)::K) fr S=ob (aG T (aN T) fr S (.plk ar ok z x k)) fun x=>aE T (.ops l::K) (aP fr d x.1) x.2:=di rfl
@[simp]def aOp{ar:Bool}{x k v:aH}:aE T (.ops (⟨d,.pset ar x k v,none⟩::l)::K) fr S=ob (aG T (aN T) fr S (.pset ar x k v)) fun x=>aE T (.ops l::K) (aP fr d x.1) x.2:=di rfl
@[simp]def aOq{ls:List Nat}{ks:Bool}{x k v:aH}:aE T (.ops (⟨d,.msb ls ks x k v,none⟩::l)::K) fr S=ob (aG T (aN T) fr S (.msb ls ks x k v)) fun x=>aE T (.ops l::K) (aP fr d x.1) x.2:=di rfl
@[simp]def aOr{ls:List Nat}{x:aH}:aE T (.ops (⟨d,.asrI ls x,none⟩::l)::K) fr S=ob (aR fr (.asrI ls x)) fun v=>aE T (.ops l::K) (aP fr d v) S:=dX (by simp only[bf,aG])
@[simp]def aOs{sz bytes:Nat}{z:List PV}{c:aH}:aE T (.ops (⟨d,.mko sz bytes z c,none⟩::l)::K) fr S=ob (aG T (aN T) fr S (.mko sz bytes z c)) fun x=>aE T (.ops l::K) (aP fr d x.1) x.2:=di rfl
@[simp]def aOt{n:Nat}{x:aH}:aE T (.ops (⟨d,.nst n x,none⟩::l)::K) fr S=ob (aG T (aN T) fr S (.nst n x)) fun x=>aE T (.ops l::K) (aP fr d x.1) x.2:=di rfl
@[simp]def aOu{z:PV}{x k:aH}:aE T (.ops (⟨d,.men z x k,none⟩::l)::K) fr S=ob (aG T (aN T) fr S (.men z x k)) fun x=>aE T (.ops l::K) (aP fr d x.1) x.2:=di rfl
@[simp]def aOv{x k v:aH}:aE T (.ops (⟨d,.est x k v,none⟩::l)::K) fr S=ob (aG T (aN T) fr S (.est x k v)) fun x=>aE T (.ops l::K) (aP fr d x.1) x.2:=di rfl
@[simp]def aOw{ks:Bool}{x k:aH}:aE T (.ops (⟨d,.mdel ks x k,none⟩::l)::K) fr S=ob (aG T (aN T) fr S (.mdel ks x k)) fun x=>aE T (.ops l::K) (aP fr d x.1) x.2:=di rfl
@[simp]def aOx{sz:Nat}{lo:Option aH}{hi mx x:aH}:aE T (.ops (⟨d,.slc3 sz lo hi mx x,none⟩::l)::K) fr S=ob (aG T (aN T) fr S (.slc3 sz lo hi mx x)) fun x=>aE T (.ops l::K) (aP fr d x.1) x.2:=di rfl
@[simp]def aOy{f:Nat}{xs:List aH}:aE T (.ops (⟨d,.mkbfn f xs,none⟩::l)::K) fr S=ob (aG T (aN T) fr S (.mkbfn f xs)) fun x=>aE T (.ops l::K) (aP fr d x.1) x.2:=di rfl
@[simp]def aOz{sz b:Nat}{s x:aH}:aE T (.ops (⟨d,.app sz b s x,none⟩::l)::K) fr S=ob (EG sz b S (ev fr s) (ev fr x)) fun x=>aE T (.ops l::K) (aP fr d x.1) x.2:=by
 refine di ?_;simp only[bf,aG,EG];cases eg S sz (ev fr x)<;>rfl
@[simp]def aOA{sz b:Nat}{s x:aH}:aE T (.ops (⟨d,.gapp sz b s x,none⟩::l)::K) fr S=ob (EH sz b S (ev fr s) (ev fr x)) fun x=>aE T (.ops l::K) (aP fr d x.1) x.2:=by
 refine di ?_;simp only[bf,aG,EH];cases eg S sz (ev fr x)<;>rfl
@[simp]def aOB{x:aH}:aE T (.ops (⟨d,.toStrO x,none⟩::l)::K) fr S=ob (aG T (aN T) fr S (.toStrO x)) fun x=>aE T (.ops l::K) (aP fr d x.1) x.2:=di rfl
@[simp]def aOC:aE T (.ops (⟨d,.emp0,none⟩::l)::K) fr S=aE T (.ops l::K) (aP fr d .emp) S:=di rfl
@[simp]def aOD{sz:Nat}{z:List PV}{x:aH}:aE T (.ops (⟨d,.gclr sz z x,none⟩::l)::K) fr S=ob (aG T (aN T) fr S (.gclr sz z x)) fun x=>aE T (.ops l::K) (aP fr d x.1) x.2:=di rfl
noncomputable def VC (T:aV)(f:Nat)(args:List PV)(S:St):PV→Option (PV×St)
 |.ptr i _=>oT i S (aN T f args S)
 |_=>none
@[simp]def aOE{f:Nat}{args:List PV}{S:St}{i o:Nat}:VC T f args S (.ptr i o)=oT i S (aN T f args S):=rfl
@[simp]def aOF{b f:Nat}{xs:List aH}:aE T (.ops (⟨d,.callb b f xs,none⟩::l)::K) fr S=ob (VC T f (xs.map (ev fr)) S (fr b)) fun x=>aE T (.ops l::K) (aP fr d x.1) x.2:=di rfl
@[simp]def aOG{m:CM}{f:Nat}{xs:List aH}:aE T (.ops (⟨d,.call m f xs,none⟩::l)::K) fr S=ob (dP (aN T) m f (xs.map (ev fr)) S) fun x=>aE T (.ops l::K) (aP fr d x.1) x.2:=di rfl
noncomputable def uF (T:aV)(m:CM)(x:PV)(args:List PV)(S:St):Option (PV×St):=match x with|.fn f caps=>dP (aN T) m f (args++caps) S|.bfn f first=>dP (aN T) m f (first++args) S|_=>none
@[simp]def aOH{T:aV}{m:CM}{f:Nat}{first args:List PV}{S:St}:uF T m (.bfn f first) args S=dP (aN T) m f (first++args) S:=rfl
@[simp]def aOI{m:CM}{f:Nat}{caps args:List PV}:uF T m (.fn f caps) args S=dP (aN T) m f (args++caps) S:=rfl
@[simp]def aOJ{m:CM}{x:aH}{xs:List aH}:aE T (.ops (⟨d,.callv m x xs,none⟩::l)::K) fr S=ob (uF T m (ev fr x) (xs.map (ev fr)) S) fun x=>aE T (.ops l::K) (aP fr d x.1) x.2:=di rfl
noncomputable def aHW (T:aV)(cm:CM)(m:Nat)(x:PV)(args:List PV)(S:St):Option (PV×St):=match x with|.iface t v=>(match T.meth t m with|some f=>dP (aN T) cm f (v::args) S|none=>none)|_=>none
@[simp]def aOK{cm:CM}{m:Nat}{x:aH}{xs:List aH}:aE T (.ops (⟨d,.inv cm m x xs,none⟩::l)::K) fr S=ob (aHW T cm m (ev fr x) (xs.map (ev fr)) S) fun x=>aE T (.ops l::K) (aP fr d x.1) x.2:=di rfl
end
attribute [simp] Sh
def nt(c:Bool):Bool:=!c
def an(c d:Bool):Bool:=c&&d
@[simp]def aHX:nt true=false:=rfl
@[simp]def aHY:nt false=true:=rfl
@[simp]def aOL(d:Bool):an true d=d:=rfl
@[simp]def aOM(d:Bool):an false d=false:=rfl
@[simp]def aON(d:Bool):an d true=d:=by cases d<;>rfl
@[simp]def aOO(d:Bool):an d false=false:=by cases d<;>rfl
def aF(c:Bool)(x:Option PV):Option PV:=if c=true then x else some (.tup [])
def gd(c:Bool)(v:PV):PV:=if c=true then v else .tup []
@[simp]def aOP(c:Bool)(v:PV):aF c (some v)=some (gd c v):=by cases c<;>rfl
@[simp]def aHZ(x:Option PV):aF true x=x:=rfl
@[simp]def aH0(x:Option PV):aF false x=some (.tup []):=rfl
@[simp]def aOQ(v:PV):gd true v=v:=rfl
@[simp]def aOR(v:PV):gd false v=.tup []:=rfl
@[congr]def aOS{c c':Bool}{v:PV}(h:c=c'):gd c v=gd c' v:=by rw[h]
def cr(v:PV)(b:Bool)(x:Option PV):Option PV:=match v with|.bool c=>aF (if b then c else !c) x|.tup []=>some (.tup [])|_=>none
@[congr]def aOT{v v':PV}{b:Bool}{x:Option PV}(h:v=v'):cr v b x=cr v' b x:=by rw[h]
@[simp]def aH1(c:Bool)(x:Option PV):cr (.bool c) true x=aF c x:=rfl
@[simp]def aH2(c:Bool)(x:Option PV):cr (.bool c) false x=aF (nt c) x:=rfl
@[simp]def aOU(b:Bool)(x:Option PV):cr (.tup []) b x=some (.tup []):=rfl
@[simp]def aOV(c d:Bool)(x:Option PV):cr (gd c (.bool d)) true x=aF (an c d) x:=by cases c<;>cases d<;>rfl
@[simp]def aOW(c d:Bool)(x:Option PV):cr (gd c (.bool d)) false x=aF (an c (nt d)) x:=by cases c<;>cases d<;>rfl
@[simp]def aOX(c d:Bool):cJ (.bool c) (.bool d) (.bool false)=some (.bool (c&&d)):=by cases c<;>rfl
@[simp]def aOY(c d:Bool):cJ (.bool c) (.bool true) (.bool d)=some (.bool (c||d)):=by cases c<;>rfl
@[simp]def aOZ(a b:PV):cJ (.bool true) a b=some a:=rfl
@[simp]def aO0(a b:PV):cJ (.bool false) a b=some b:=rfl
noncomputable def ip (T:aV)(f:Nat)(args:List PV):Option PV:=if PV.freeL args then fc T f (PV.frzL args)else none
def uG{T:aV}{f:Nat}{args:List PV}(h:PV.freeL args=true):ip T f args=fc T f (PV.frzL args):=if_pos h
@[simp]def aO1{T:aV}{f:Nat}:ip T f []=fc T f []:=by rw[uG (by simp)];simp
@[simp]def aO2{T:aV}{f:Nat}{a:PV}(h:a.free=true):ip T f [a]=fc T f [a.frz]:=by rw[uG (by simp[h])];simp
@[simp]def aO3{T:aV}{f:Nat}{a b:PV}(h:a.free=true)(h2:b.free=true):ip T f [a,b]=fc T f [a.frz,b.frz]:=by rw[uG (by simp[h,h2])];simp
@[simp]def aO4{T:aV}{f:Nat}{a b c:PV}(h:a.free=true)(h2:b.free=true)(h3:c.free=true):ip T f [a,b,c]=fc T f [a.frz,b.frz,c.frz]:=by rw[uG (by simp[h,h2,h3])];simp
@[simp]def sg1{c:Bool}{x:PV}{o:UnOp}:aF c (unOp o (gd c x))=aF c (unOp o x):=by cases c<;>rfl
@[simp]def sg2{c d:Bool}{x:PV}{o:UnOp}:aF (an c d) (unOp o (gd c x))=aF (an c d) (unOp o x):=by cases c<;>cases d<;>rfl
@[simp]def sg3{c d:Bool}{x:PV}{o:UnOp}:aF (an c d) (unOp o (gd d x))=aF (an c d) (unOp o x):=by cases c<;>cases d<;>rfl
@[simp]def sg4{c d e:Bool}{x:PV}{o:UnOp}:aF (an (an c d) e) (unOp o (gd c x))=aF (an (an c d) e) (unOp o x):=by cases c<;>cases d<;>cases e<;>rfl
@[simp]def sg5{c d e:Bool}{x:PV}{o:UnOp}:aF (an (an c d) e) (unOp o (gd (an c d) x))=aF (an (an c d) e) (unOp o x):=by cases c<;>cases d<;>cases e<;>rfl
@[simp]def sg6{c:Bool}{x:PV}{neg:Bool}{k:NK}:aF c (gD neg k (gd c x))=aF c (gD neg k x):=by cases c<;>rfl
@[simp]def sg7{c d:Bool}{x:PV}{neg:Bool}{k:NK}:aF (an c d) (gD neg k (gd c x))=aF (an c d) (gD neg k x):=by cases c<;>cases d<;>rfl
@[simp]def sg8{c d:Bool}{x:PV}{neg:Bool}{k:NK}:aF (an c d) (gD neg k (gd d x))=aF (an c d) (gD neg k x):=by cases c<;>cases d<;>rfl
@[simp]def sg9{c d e:Bool}{x:PV}{neg:Bool}{k:NK}:aF (an (an c d) e) (gD neg k (gd c x))=aF (an (an c d) e) (gD neg k x):=by cases c<;>cases d<;>cases e<;>rfl
@[simp]def aPe{c d e:Bool}{x:PV}{neg:Bool}{k:NK}:aF (an (an c d) e) (gD neg k (gd (an c d) x))=aF (an (an c d) e) (gD neg k x):=by cases c<;>cases d<;>cases e<;>rfl
@[simp]def aPf{c:Bool}{x:PV}:aF c (iE (gd c x))=aF c (iE x):=by cases c<;>rfl
@[simp]def aPg{c d:Bool}{x:PV}:aF (an c d) (iE (gd c x))=aF (an c d) (iE x):=by cases c<;>cases d<;>rfl
@[simp]def aPh{c d:Bool}{x:PV}:aF (an c d) (iE (gd d x))=aF (an c d) (iE x):=by cases c<;>cases d<;>rfl
@[simp]def aPi{c d e:Bool}{x:PV}:aF (an (an c d) e) (iE (gd c x))=aF (an (an c d) e) (iE x):=by cases c<;>cases d<;>cases e<;>rfl
@[simp]def aPj{c d e:Bool}{x:PV}:aF (an (an c d) e) (iE (gd (an c d) x))=aF (an (an c d) e) (iE x):=by cases c<;>cases d<;>cases e<;>rfl
@[simp]def aPk{c:Bool}{x:PV}{k:IntKind}:aF c (jP k (gd c x))=aF c (jP k x):=by cases c<;>rfl
@[simp]def aPl{c d:Bool}{x:PV}{k:IntKind}:aF (an c d) (jP k (gd c x))=aF (an c d) (jP k x):=by cases c<;>cases d<;>rfl
@[simp]def aPm{c d:Bool}{x:PV}{k:IntKind}:aF (an c d) (jP k (gd d x))=aF (an c d) (jP k x):=by cases c<;>cases d<;>rfl
@[simp]def aPn{c d e:Bool}{x:PV}{k:IntKind}:aF (an (an c d) e) (jP k (gd c x))=aF (an (an c d) e) (jP k x):=by cases c<;>cases d<;>cases e<;>rfl
@[simp]def aPo{c d e:Bool}{x:PV}{k:IntKind}:aF (an (an c d) e) (jP k (gd (an c d) x))=aF (an (an c d) e) (jP k x):=by cases c<;>cases d<;>cases e<;>rfl
@[simp]def aPp{c:Bool}{x:PV}:aF c (jQ (gd c x))=aF c (jQ x):=by cases c<;>rfl
@[simp]def aPq{c d:Bool}{x:PV}:aF (an c d) (jQ (gd c x))=aF (an c d) (jQ x):=by cases c<;>cases d<;>rfl
@[simp]def aPr{c d:Bool}{x:PV}:aF (an c d) (jQ (gd d x))=aF (an c d) (jQ x):=by cases c<;>cases d<;>rfl
@[simp]def aPs{c d e:Bool}{x:PV}:aF (an (an c d) e) (jQ (gd c x))=aF (an (an c d) e) (jQ x):=by cases c<;>cases d<;>cases e<;>rfl
@[simp]def aPt{c d e:Bool}{x:PV}:aF (an (an c d) e) (jQ (gd (an c d) x))=aF (an (an c d) e) (jQ x):=by cases c<;>cases d<;>cases e<;>rfl
@[simp]def aPu{c:Bool}{x:PV}{ag:Bool}{off n:Nat}:aF c (jR ag off n (gd c x))=aF c (jR ag off n x):=by cases c<;>rfl
@[simp]def aPv{c d:Bool}{x:PV}{ag:Bool}{off n:Nat}:aF (an c d) (jR ag off n (gd c x))=aF (an c d) (jR ag off n x):=by cases c<;>cases d<;>rfl
@[simp]def aPw{c d:Bool}{x:PV}{ag:Bool}{off n:Nat}:aF (an c d) (jR ag off n (gd d x))=aF (an c d) (jR ag off n x):=by cases c<;>cases d<;>rfl
@[simp]def aPx{c d e:Bool}{x:PV}{ag:Bool}{off n:Nat}:aF (an (an c d) e) (jR ag off n (gd c x))=aF (an (an c d) e) (jR ag off n x):=by cases c<;>cases d<;>cases e<;>rfl
@[simp]def aPy{c d e:Bool}{x:PV}{ag:Bool}{off n:Nat}:aF (an (an c d) e) (jR ag off n (gd (an c d) x))=aF (an (an c d) e) (jR ag off n x):=by cases c<;>cases d<;>cases e<;>rfl
@[simp]def aPz{c:Bool}{x:PV}{i:Nat}:aF c (jS i (gd c x))=aF c (jS i x):=by cases c<;>rfl
@[simp]def aPA{c d:Bool}{x:PV}{i:Nat}:aF (an c d) (jS i (gd c x))=aF (an c d) (jS i x):=by cases c<;>cases d<;>rfl
@[simp]def aPB{c d:Bool}{x:PV}{i:Nat}:aF (an c d) (jS i (gd d x))=aF (an c d) (jS i x):=by cases c<;>cases d<;>rfl
@[simp]def aPC{c d e:Bool}{x:PV}{i:Nat}:aF (an (an c d) e) (jS i (gd c x))=aF (an (an c d) e) (jS i x):=by cases c<;>cases d<;>cases e<;>rfl
@[simp]def aPD{c d e:Bool}{x:PV}{i:Nat}:aF (an (an c d) e) (jS i (gd (an c d) x))=aF (an (an c d) e) (jS i x):=by cases c<;>cases d<;>cases e<;>rfl
@[simp]def aPE{c:Bool}{x:PV}{t:Nat}{ok:Bool}{z:PV}:aF c (im t ok z (gd c x))=aF c (im t ok z x):=by cases c<;>rfl
@[simp]def aPF{c d:Bool}{x:PV}{t:Nat}{ok:Bool}{z:PV}:aF (an c d) (im t ok z (gd c x))=aF (an c d) (im t ok z x):=by cases c<;>cases d<;>rfl
@[simp]def aPG{c d:Bool}{x:PV}{t:Nat}{ok:Bool}{z:PV}:aF (an c d) (im t ok z (gd d x))=aF (an c d) (im t ok z x):=by cases c<;>cases d<;>rfl
@[simp]def aPH{c d e:Bool}{x:PV}{t:Nat}{ok:Bool}{z:PV}:aF (an (an c d) e) (im t ok z (gd c x))=aF (an (an c d) e) (im t ok z x):=by cases c<;>cases d<;>cases e<;>rfl
@[simp]def aPI{c d e:Bool}{x:PV}{t:Nat}{ok:Bool}{z:PV}:aF (an (an c d) e) (im t ok z (gd (an c d) x))=aF (an (an c d) e) (im t ok z x):=by cases c<;>cases d<;>cases e<;>rfl
@[simp]def aPJ{c:Bool}{x:PV}{lo hi:Option PV}:aF c (jT lo hi (gd c x))=aF c (jT lo hi x):=by cases c<;>rfl
@[simp]def aPK{c d:Bool}{x:PV}{lo hi:Option PV}:aF (an c d) (jT lo hi (gd c x))=aF (an c d) (jT lo hi x):=by cases c<;>cases d<;>rfl
@[simp]def aPL{c d:Bool}{x:PV}{lo hi:Option PV}:aF (an c d) (jT lo hi (gd d x))=aF (an c d) (jT lo hi x):=by cases c<;>cases d<;>rfl
@[simp]def aPM{c d e:Bool}{x:PV}{lo hi:Option PV}:aF (an (an c d) e) (jT lo hi (gd c x))=aF (an (an c d) e) (jT lo hi x):=by cases c<;>cases d<;>cases e<;>rfl
@[simp]def aPN{c d e:Bool}{x:PV}{lo hi:Option PV}:aF (an (an c d) e) (jT lo hi (gd (an c d) x))=aF (an (an c d) e) (jT lo hi x):=by cases c<;>cases d<;>cases e<;>rfl
@[simp]def aPO{c:Bool}{x:PV}{sz:Nat}{lo hi:Option PV}:aF c (eM sz lo hi (gd c x))=aF c (eM sz lo hi x):=by cases c<;>rfl
@[simp]def aPP{c d:Bool}{x:PV}{sz:Nat}{lo hi:Option PV}:aF (an c d) (eM sz lo hi (gd c x))=aF (an c d) (eM sz lo hi x):=by cases c<;>cases d<;>rfl
@[simp]def aPQ{c d:Bool}{x:PV}{sz:Nat}{lo hi:Option PV}:aF (an c d) (eM sz lo hi (gd d x))=aF (an c d) (eM sz lo hi x):=by cases c<;>cases d<;>rfl
@[simp]def aPR{c d e:Bool}{x:PV}{sz:Nat}{lo hi:Option PV}:aF (an (an c d) e) (eM sz lo hi (gd c x))=aF (an (an c d) e) (eM sz lo hi x):=by cases c<;>cases d<;>cases e<;>rfl
@[simp]def aPS{c d e:Bool}{x:PV}{sz:Nat}{lo hi:Option PV}:aF (an (an c d) e) (eM sz lo hi (gd (an c d) x))=aF (an (an c d) e) (eM sz lo hi x):=by cases c<;>cases d<;>cases e<;>rfl
@[simp]def aPT{c:Bool}{x:PV}{off:Nat}:aF c (io off (gd c x))=aF c (io off x):=by cases c<;>rfl
@[simp]def aPU{c d:Bool}{x:PV}{off:Nat}:aF (an c d) (io off (gd c x))=aF (an c d) (io off x):=by cases c<;>cases d<;>rfl
@[simp]def aPV{c d:Bool}{x:PV}{off:Nat}:aF (an c d) (io off (gd d x))=aF (an c d) (io off x):=by cases c<;>cases d<;>rfl
@[simp]def aPW{c d e:Bool}{x:PV}{off:Nat}:aF (an (an c d) e) (io off (gd c x))=aF (an (an c d) e) (io off x):=by cases c<;>cases d<;>cases e<;>rfl
@[simp]def aPX{c d e:Bool}{x:PV}{off:Nat}:aF (an (an c d) e) (io off (gd (an c d) x))=aF (an (an c d) e) (io off x):=by cases c<;>cases d<;>cases e<;>rfl
@[simp]def aPY{c:Bool}{x:PV}{st:Bool}:aF c (eN st (gd c x))=aF c (eN st x):=by cases c<;>rfl
@[simp]def aPZ{c d:Bool}{x:PV}{st:Bool}:aF (an c d) (eN st (gd c x))=aF (an c d) (eN st x):=by cases c<;>cases d<;>rfl
@[simp]def aP0{c d:Bool}{x:PV}{st:Bool}:aF (an c d) (eN st (gd d x))=aF (an c d) (eN st x):=by cases c<;>cases d<;>rfl
@[simp]def aP1{c d e:Bool}{x:PV}{st:Bool}:aF (an (an c d) e) (eN st (gd c x))=aF (an (an c d) e) (eN st x):=by cases c<;>cases d<;>cases e<;>rfl
@[simp]def aP2{c d e:Bool}{x:PV}{st:Bool}:aF (an (an c d) e) (eN st (gd (an c d) x))=aF (an (an c d) e) (eN st x):=by cases c<;>cases d<;>cases e<;>rfl
@[simp]def aP3{c:Bool}{x:PV}:aF c (eX (gd c x))=aF c (eX x):=by cases c<;>rfl
@[simp]def aP4{c d:Bool}{x:PV}:aF (an c d) (eX (gd c x))=aF (an c d) (eX x):=by cases c<;>cases d<;>rfl
@[simp]def aP5{c d:Bool}{x:PV}:aF (an c d) (eX (gd d x))=aF (an c d) (eX x):=by cases c<;>cases d<;>rfl
@[simp]def aP6{c d e:Bool}{x:PV}:aF (an (an c d) e) (eX (gd c x))=aF (an (an c d) e) (eX x):=by cases c<;>cases d<;>cases e<;>rfl
@[simp]def aP7{c d e:Bool}{x:PV}:aF (an (an c d) e) (eX (gd (an c d) x))=aF (an (an c d) e) (eX x):=by cases c<;>cases d<;>cases e<;>rfl
@[simp]def aP8{c:Bool}{x:PV}{S:St}{ag:Bool}{n:Nat}:aF c (dD S ag n (gd c x))=aF c (dD S ag n x):=by cases c<;>rfl
@[simp]def aP9{c d:Bool}{x:PV}{S:St}{ag:Bool}{n:Nat}:aF (an c d) (dD S ag n (gd c x))=aF (an c d) (dD S ag n x):=by cases c<;>cases d<;>rfl
@[simp]def aQa{c d:Bool}{x:PV}{S:St}{ag:Bool}{n:Nat}:aF (an c d) (dD S ag n (gd d x))=aF (an c d) (dD S ag n x):=by cases c<;>cases d<;>rfl
@[simp]def aQb{c d e:Bool}{x:PV}{S:St}{ag:Bool}{n:Nat}:aF (an (an c d) e) (dD S ag n (gd c x))=aF (an (an c d) e) (dD S ag n x):=by cases c<;>cases d<;>cases e<;>rfl
@[simp]def aQc{c d e:Bool}{x:PV}{S:St}{ag:Bool}{n:Nat}:aF (an (an c d) e) (dD S ag n (gd (an c d) x))=aF (an (an c d) e) (dD S ag n x):=by cases c<;>cases d<;>cases e<;>rfl
@[simp]def aQd{c:Bool}{x y:PV}{o:BinOp}:aF c (arith o (gd c x) y)=aF c (arith o x y):=by cases c<;>rfl
@[simp]def aQe{c:Bool}{x y:PV}{o:BinOp}:aF c (arith o y (gd c x))=aF c (arith o y x):=by cases c<;>rfl
@[simp]def aQf{c d:Bool}{x y:PV}{o:BinOp}:aF (an c d) (arith o (gd c x) y)=aF (an c d) (arith o x y):=by cases c<;>cases d<;>rfl
@[simp]def aQg{c d:Bool}{x y:PV}{o:BinOp}:aF (an c d) (arith o y (gd c x))=aF (an c d) (arith o y x):=by cases c<;>cases d<;>rfl
@[simp]def aQh{c d:Bool}{x y:PV}{o:BinOp}:aF (an c d) (arith o (gd d x) y)=aF (an c d) (arith o x y):=by cases c<;>cases d<;>rfl
@[simp]def aQi{c d:Bool}{x y:PV}{o:BinOp}:aF (an c d) (arith o y (gd d x))=aF (an c d) (arith o y x):=by cases c<;>cases d<;>rfl
@[simp]def aQj{c d e:Bool}{x y:PV}{o:BinOp}:aF (an (an c d) e) (arith o (gd c x) y)=aF (an (an c d) e) (arith o x y):=by cases c<;>cases d<;>cases e<;>rfl
@[simp]def aQk{c d e:Bool}{x y:PV}{o:BinOp}:aF (an (an c d) e) (arith o y (gd c x))=aF (an (an c d) e) (arith o y x):=by cases c<;>cases d<;>cases e<;>rfl
@[simp]def aQl{c d e:Bool}{x y:PV}{o:BinOp}:aF (an (an c d) e) (arith o (gd (an c d) x) y)=aF (an (an c d) e) (arith o x y):=by cases c<;>cases d<;>cases e<;>rfl
@[simp]def aQm{c d e:Bool}{x y:PV}{o:BinOp}:aF (an (an c d) e) (arith o y (gd (an c d) x))=aF (an (an c d) e) (arith o y x):=by cases c<;>cases d<;>cases e<;>rfl
@[simp]def aQn{c:Bool}{x y:PV}{neg:Bool}:aF c (fK neg (gd c x) y)=aF c (fK neg x y):=by cases c<;>rfl
@[simp]def aQo{c:Bool}{x y:PV}{neg:Bool}:aF c (fK neg y (gd c x))=aF c (fK neg y x):=by cases c<;>rfl
@[simp]def aQp{c d:Bool}{x y:PV}{neg:Bool}:aF (an c d) (fK neg (gd c x) y)=aF (an c d) (fK neg x y):=by cases c<;>cases d<;>rfl
@[simp]def aQq{c d:Bool}{x y:PV}{neg:Bool}:aF (an c d) (fK neg y (gd c x))=aF (an c d) (fK neg y x):=by cases c<;>cases d<;>rfl
@[simp]def aQr{c d:Bool}{x y:PV}{neg:Bool}:aF (an c d) (fK neg (gd d x) y)=aF (an c d) (fK neg x y):=by cases c<;>cases d<;>rfl
@[simp]def aQs{c d:Bool}{x y:PV}{neg:Bool}:aF (an c d) (fK neg y (gd d x))=aF (an c d) (fK neg y x):=by cases c<;>cases d<;>rfl
@[simp]def aQt{c d e:Bool}{x y:PV}{neg:Bool}:aF (an (an c d) e) (fK neg (gd c x) y)=aF (an (an c d) e) (fK neg x y):=by cases c<;>cases d<;>cases e<;>rfl
@[simp]def aQu{c d e:Bool}{x y:PV}{neg:Bool}:aF (an (an c d) e) (fK neg y (gd c x))=aF (an (an c d) e) (fK neg y x):=by cases c<;>cases d<;>cases e<;>rfl
@[simp]def aQv{c d e:Bool}{x y:PV}{neg:Bool}:aF (an (an c d) e) (fK neg (gd (an c d) x) y)=aF (an (an c d) e) (fK neg x y):=by cases c<;>cases d<;>cases e<;>rfl
@[simp]def aQw{c d e:Bool}{x y:PV}{neg:Bool}:aF (an (an c d) e) (fK neg y (gd (an c d) x))=aF (an (an c d) e) (fK neg y x):=by cases c<;>cases d<;>cases e<;>rfl
@[simp]def aQx{c:Bool}{x y:PV}:aF c (fA (gd c x) y)=aF c (fA x y):=by cases c<;>rfl
@[simp]def aQy{c:Bool}{x y:PV}:aF c (fA y (gd c x))=aF c (fA y x):=by cases c<;>rfl
@[simp]def aQz{c d:Bool}{x y:PV}:aF (an c d) (fA (gd c x) y)=aF (an c d) (fA x y):=by cases c<;>cases d<;>rfl
@[simp]def aQA{c d:Bool}{x y:PV}:aF (an c d) (fA y (gd c x))=aF (an c d) (fA y x):=by cases c<;>cases d<;>rfl
@[simp]def aQB{c d:Bool}{x y:PV}:aF (an c d) (fA (gd d x) y)=aF (an c d) (fA x y):=by cases c<;>cases d<;>rfl
@[simp]def aQC{c d:Bool}{x y:PV}:aF (an c d) (fA y (gd d x))=aF (an c d) (fA y x):=by cases c<;>cases d<;>rfl
@[simp]def aQD{c d e:Bool}{x y:PV}:aF (an (an c d) e) (fA (gd c x) y)=aF (an (an c d) e) (fA x y):=by cases c<;>cases d<;>cases e<;>rfl
@[simp]def aQE{c d e:Bool}{x y:PV}:aF (an (an c d) e) (fA y (gd c x))=aF (an (an c d) e) (fA y x):=by cases c<;>cases d<;>cases e<;>rfl
@[simp]def aQF{c d e:Bool}{x y:PV}:aF (an (an c d) e) (fA (gd (an c d) x) y)=aF (an (an c d) e) (fA x y):=by cases c<;>cases d<;>cases e<;>rfl
@[simp]def aQG{c d e:Bool}{x y:PV}:aF (an (an c d) e) (fA y (gd (an c d) x))=aF (an (an c d) e) (fA y x):=by cases c<;>cases d<;>cases e<;>rfl
@[simp]def aQH{c:Bool}{x y:PV}{len n:Nat}{ag:Bool}:aF c (fJ len n ag (gd c x) y)=aF c (fJ len n ag x y):=by cases c<;>rfl
@[simp]def aQI{c:Bool}{x y:PV}{len n:Nat}{ag:Bool}:aF c (fJ len n ag y (gd c x))=aF c (fJ len n ag y x):=by cases c<;>rfl
@[simp]def aQJ{c d:Bool}{x y:PV}{len n:Nat}{ag:Bool}:aF (an c d) (fJ len n ag (gd c x) y)=aF (an c d) (fJ len n ag x y):=by cases c<;>cases d<;>rfl
@[simp]def aQK{c d:Bool}{x y:PV}{len n:Nat}{ag:Bool}:aF (an c d) (fJ len n ag y (gd c x))=aF (an c d) (fJ len n ag y x):=by cases c<;>cases d<;>rfl
@[simp]def aQL{c d:Bool}{x y:PV}{len n:Nat}{ag:Bool}:aF (an c d) (fJ len n ag (gd d x) y)=aF (an c d) (fJ len n ag x y):=by cases c<;>cases d<;>rfl
@[simp]def aQM{c d:Bool}{x y:PV}{len n:Nat}{ag:Bool}:aF (an c d) (fJ len n ag y (gd d x))=aF (an c d) (fJ len n ag y x):=by cases c<;>cases d<;>rfl
@[simp]def aQN{c d e:Bool}{x y:PV}{len n:Nat}{ag:Bool}:aF (an (an c d) e) (fJ len n ag (gd c x) y)=aF (an (an c d) e) (fJ len n ag x y):=by cases c<;>cases d<;>cases e<;>rfl
@[simp]def aQO{c d e:Bool}{x y:PV}{len n:Nat}{ag:Bool}:aF (an (an c d) e) (fJ len n ag y (gd c x))=aF (an (an c d) e) (fJ len n ag y x):=by cases c<;>cases d<;>cases e<;>rfl
@[simp]def aQP{c d e:Bool}{x y:PV}{len n:Nat}{ag:Bool}:aF (an (an c d) e) (fJ len n ag (gd (an c d) x) y)=aF (an (an c d) e) (fJ len n ag x y):=by cases c<;>cases d<;>cases e<;>rfl
@[simp]def aQQ{c d e:Bool}{x y:PV}{len n:Nat}{ag:Bool}:aF (an (an c d) e) (fJ len n ag y (gd (an c d) x))=aF (an (an c d) e) (fJ len n ag y x):=by cases c<;>cases d<;>cases e<;>rfl
@[simp]def aQR{c:Bool}{x y:PV}{sz:Nat}:aF c (ca sz (gd c x) y)=aF c (ca sz x y):=by cases c<;>rfl
@[simp]def aQS{c:Bool}{x y:PV}{sz:Nat}:aF c (ca sz y (gd c x))=aF c (ca sz y x):=by cases c<;>rfl
@[simp]def aQT{c d:Bool}{x y:PV}{sz:Nat}:aF (an c d) (ca sz (gd c x) y)=aF (an c d) (ca sz x y):=by cases c<;>cases d<;>rfl
@[simp]def aQU{c d:Bool}{x y:PV}{sz:Nat}:aF (an c d) (ca sz y (gd c x))=aF (an c d) (ca sz y x):=by cases c<;>cases d<;>rfl
@[simp]def aQV{c d:Bool}{x y:PV}{sz:Nat}:aF (an c d) (ca sz (gd d x) y)=aF (an c d) (ca sz x y):=by cases c<;>cases d<;>rfl
@[simp]def aQW{c d:Bool}{x y:PV}{sz:Nat}:aF (an c d) (ca sz y (gd d x))=aF (an c d) (ca sz y x):=by cases c<;>cases d<;>rfl
@[simp]def aQX{c d e:Bool}{x y:PV}{sz:Nat}:aF (an (an c d) e) (ca sz (gd c x) y)=aF (an (an c d) e) (ca sz x y):=by cases c<;>cases d<;>cases e<;>rfl
@[simp]def aQY{c d e:Bool}{x y:PV}{sz:Nat}:aF (an (an c d) e) (ca sz y (gd c x))=aF (an (an c d) e) (ca sz y x):=by cases c<;>cases d<;>cases e<;>rfl
@[simp]def aQZ{c d e:Bool}{x y:PV}{sz:Nat}:aF (an (an c d) e) (ca sz (gd (an c d) x) y)=aF (an (an c d) e) (ca sz x y):=by cases c<;>cases d<;>cases e<;>rfl
@[simp]def aQ0{c d e:Bool}{x y:PV}{sz:Nat}:aF (an (an c d) e) (ca sz y (gd (an c d) x))=aF (an (an c d) e) (ca sz y x):=by cases c<;>cases d<;>cases e<;>rfl
@[simp]def aQ1{c:Bool}{x y:PV}{len sz:Nat}:aF c (fB len sz (gd c x) y)=aF c (fB len sz x y):=by cases c<;>rfl
@[simp]def aQ2{c:Bool}{x y:PV}{len sz:Nat}:aF c (fB len sz y (gd c x))=aF c (fB len sz y x):=by cases c<;>rfl
@[simp]def aQ3{c d:Bool}{x y:PV}{len sz:Nat}:aF (an c d) (fB len sz (gd c x) y)=aF (an c d) (fB len sz x y):=by cases c<;>cases d<;>rfl
@[simp]def aQ4{c d:Bool}{x y:PV}{len sz:Nat}:aF (an c d) (fB len sz y (gd c x))=aF (an c d) (fB len sz y x):=by cases c<;>cases d<;>rfl
@[simp]def aQ5{c d:Bool}{x y:PV}{len sz:Nat}:aF (an c d) (fB len sz (gd d x) y)=aF (an c d) (fB len sz x y):=by cases c<;>cases d<;>rfl
@[simp]def aQ6{c d:Bool}{x y:PV}{len sz:Nat}:aF (an c d) (fB len sz y (gd d x))=aF (an c d) (fB len sz y x):=by cases c<;>cases d<;>rfl
@[simp]def aQ7{c d e:Bool}{x y:PV}{len sz:Nat}:aF (an (an c d) e) (fB len sz (gd c x) y)=aF (an (an c d) e) (fB len sz x y):=by cases c<;>cases d<;>cases e<;>rfl
@[simp]def aQ8{c d e:Bool}{x y:PV}{len sz:Nat}:aF (an (an c d) e) (fB len sz y (gd c x))=aF (an (an c d) e) (fB len sz y x):=by cases c<;>cases d<;>cases e<;>rfl
@[simp]def aQ9{c d e:Bool}{x y:PV}{len sz:Nat}:aF (an (an c d) e) (fB len sz (gd (an c d) x) y)=aF (an (an c d) e) (fB len sz x y):=by cases c<;>cases d<;>cases e<;>rfl
@[simp]def aRa{c d e:Bool}{x y:PV}{len sz:Nat}:aF (an (an c d) e) (fB len sz y (gd (an c d) x))=aF (an (an c d) e) (fB len sz y x):=by cases c<;>cases d<;>cases e<;>rfl
@[simp]def aRb{c:Bool}{x y:PV}{mx:Bool}:aF c (fC mx (gd c x) y)=aF c (fC mx x y):=by cases c<;>rfl
@[simp]def aRc{c:Bool}{x y:PV}{mx:Bool}:aF c (fC mx y (gd c x))=aF c (fC mx y x):=by cases c<;>rfl
@[simp]def aRd{c d:Bool}{x y:PV}{mx:Bool}:aF (an c d) (fC mx (gd c x) y)=aF (an c d) (fC mx x y):=by cases c<;>cases d<;>rfl
@[simp]def aRe{c d:Bool}{x y:PV}{mx:Bool}:aF (an c d) (fC mx y (gd c x))=aF (an c d) (fC mx y x):=by cases c<;>cases d<;>rfl
@[simp]def aRf{c d:Bool}{x y:PV}{mx:Bool}:aF (an c d) (fC mx (gd d x) y)=aF (an c d) (fC mx x y):=by cases c<;>cases d<;>rfl
@[simp]def aRg{c d:Bool}{x y:PV}{mx:Bool}:aF (an c d) (fC mx y (gd d x))=aF (an c d) (fC mx y x):=by cases c<;>cases d<;>rfl
@[simp]def aRh{c d e:Bool}{x y:PV}{mx:Bool}:aF (an (an c d) e) (fC mx (gd c x) y)=aF (an (an c d) e) (fC mx x y):=by cases c<;>cases d<;>cases e<;>rfl
@[simp]def aRi{c d e:Bool}{x y:PV}{mx:Bool}:aF (an (an c d) e) (fC mx y (gd c x))=aF (an (an c d) e) (fC mx y x):=by cases c<;>cases d<;>cases e<;>rfl
@[simp]def aRj{c d e:Bool}{x y:PV}{mx:Bool}:aF (an (an c d) e) (fC mx (gd (an c d) x) y)=aF (an (an c d) e) (fC mx x y):=by cases c<;>cases d<;>cases e<;>rfl
@[simp]def aRk{c d e:Bool}{x y:PV}{mx:Bool}:aF (an (an c d) e) (fC mx y (gd (an c d) x))=aF (an (an c d) e) (fC mx y x):=by cases c<;>cases d<;>cases e<;>rfl
@[simp]def aRl{c:Bool}{x y:PV}{neg isb:Bool}{n:Nat}:aF c (fI neg isb n (gd c x) y)=aF c (fI neg isb n x y):=by cases c<;>rfl
@[simp]def aRm{c:Bool}{x y:PV}{neg isb:Bool}{n:Nat}:aF c (fI neg isb n y (gd c x))=aF c (fI neg isb n y x):=by cases c<;>rfl
@[simp]def aRn{c d:Bool}{x y:PV}{neg isb:Bool}{n:Nat}:aF (an c d) (fI neg isb n (gd c x) y)=aF (an c d) (fI neg isb n x y):=by cases c<;>cases d<;>rfl
@[simp]def aRo{c d:Bool}{x y:PV}{neg isb:Bool}{n:Nat}:aF (an c d) (fI neg isb n y (gd c x))=aF (an c d) (fI neg isb n y x):=by cases c<;>cases d<;>rfl
@[simp]def aRp{c d:Bool}{x y:PV}{neg isb:Bool}{n:Nat}:aF (an c d) (fI neg isb n (gd d x) y)=aF (an c d) (fI neg isb n x y):=by cases c<;>cases d<;>rfl
@[simp]def aRq{c d:Bool}{x y:PV}{neg isb:Bool}{n:Nat}:aF (an c d) (fI neg isb n y (gd d x))=aF (an c d) (fI neg isb n y x):=by cases c<;>cases d<;>rfl
@[simp]def aRr{c d e:Bool}{x y:PV}{neg isb:Bool}{n:Nat}:aF (an (an c d) e) (fI neg isb n (gd c x) y)=aF (an (an c d) e) (fI neg isb n x y):=by cases c<;>cases d<;>cases e<;>rfl
@[simp]def aRs{c d e:Bool}{x y:PV}{neg isb:Bool}{n:Nat}:aF (an (an c d) e) (fI neg isb n y (gd c x))=aF (an (an c d) e) (fI neg isb n y x):=by cases c<;>cases d<;>cases e<;>rfl
@[simp]def aRt{c d e:Bool}{x y:PV}{neg isb:Bool}{n:Nat}:aF (an (an c d) e) (fI neg isb n (gd (an c d) x) y)=aF (an (an c d) e) (fI neg isb n x y):=by cases c<;>cases d<;>cases e<;>rfl
@[simp]def aRu{c d e:Bool}{x y:PV}{neg isb:Bool}{n:Nat}:aF (an (an c d) e) (fI neg isb n y (gd (an c d) x))=aF (an (an c d) e) (fI neg isb n y x):=by cases c<;>cases d<;>cases e<;>rfl
@[simp]def aRv{c:Bool}{x:PV}:gd c (gd c x)=gd c x:=by cases c<;>rfl
@[simp]def aRw{c:Bool}{a b p:PV}:aF c (cJ (gd c a) b p)=aF c (cJ a b p):=by cases c<;>rfl
@[simp]def aRx{c:Bool}{a b p:PV}:aF c (cJ a (gd c b) p)=aF c (cJ a b p):=by cases c<;>rfl
@[simp]def aRy{c:Bool}{a b p:PV}:aF c (cJ a b (gd c p))=aF c (cJ a b p):=by cases c<;>rfl
@[simp]def aRz{c d:Bool}{x:PV}:gd (an c d) (gd c x)=gd (an c d) x:=by cases c<;>cases d<;>rfl
@[simp]def aRA{c d:Bool}{a b p:PV}:aF (an c d) (cJ (gd c a) b p)=aF (an c d) (cJ a b p):=by cases c<;>cases d<;>rfl
@[simp]def aRB{c d:Bool}{a b p:PV}:aF (an c d) (cJ a (gd c b) p)=aF (an c d) (cJ a b p):=by cases c<;>cases d<;>rfl
@[simp]def aRC{c d:Bool}{a b p:PV}:aF (an c d) (cJ a b (gd c p))=aF (an c d) (cJ a b p):=by cases c<;>cases d<;>rfl
@[simp]def aRD{c d:Bool}{x:PV}:gd (an c d) (gd d x)=gd (an c d) x:=by cases c<;>cases d<;>rfl
@[simp]def aRE{c d:Bool}{a b p:PV}:aF (an c d) (cJ (gd d a) b p)=aF (an c d) (cJ a b p):=by cases c<;>cases d<;>rfl
@[simp]def aRF{c d:Bool}{a b p:PV}:aF (an c d) (cJ a (gd d b) p)=aF (an c d) (cJ a b p):=by cases c<;>cases d<;>rfl
@[simp]def aRG{c d:Bool}{a b p:PV}:aF (an c d) (cJ a b (gd d p))=aF (an c d) (cJ a b p):=by cases c<;>cases d<;>rfl
@[simp]def aRH{c d e:Bool}{x:PV}:gd (an (an c d) e) (gd c x)=gd (an (an c d) e) x:=by cases c<;>cases d<;>cases e<;>rfl
@[simp]def aRI{c d e:Bool}{a b p:PV}:aF (an (an c d) e) (cJ (gd c a) b p)=aF (an (an c d) e) (cJ a b p):=by cases c<;>cases d<;>cases e<;>rfl
@[simp]def aRJ{c d e:Bool}{a b p:PV}:aF (an (an c d) e) (cJ a (gd c b) p)=aF (an (an c d) e) (cJ a b p):=by cases c<;>cases d<;>cases e<;>rfl
@[simp]def aRK{c d e:Bool}{a b p:PV}:aF (an (an c d) e) (cJ a b (gd c p))=aF (an (an c d) e) (cJ a b p):=by cases c<;>cases d<;>cases e<;>rfl
@[simp]def aRL{c d e:Bool}{x:PV}:gd (an (an c d) e) (gd (an c d) x)=gd (an (an c d) e) x:=by cases c<;>cases d<;>cases e<;>rfl
@[simp]def aRM{c d e:Bool}{a b p:PV}:aF (an (an c d) e) (cJ (gd (an c d) a) b p)=aF (an (an c d) e) (cJ a b p):=by cases c<;>cases d<;>cases e<;>rfl
@[simp]def aRN{c d e:Bool}{a b p:PV}:aF (an (an c d) e) (cJ a (gd (an c d) b) p)=aF (an (an c d) e) (cJ a b p):=by cases c<;>cases d<;>cases e<;>rfl
@[simp]def aRO{c d e:Bool}{a b p:PV}:aF (an (an c d) e) (cJ a b (gd (an c d) p))=aF (an (an c d) e) (cJ a b p):=by cases c<;>cases d<;>cases e<;>rfl
@[simp]def aRP{T:aV}{f:Nat}{c:Bool}{x:PV}:aF c (ip T f [gd c x])=aF c (ip T f [x]):=by cases c<;>rfl
@[simp]def aRQ{T:aV}{f:Nat}{c:Bool}{x y:PV}:aF c (ip T f [gd c x,y])=aF c (ip T f [x,y]):=by cases c<;>rfl
@[simp]def aRR{T:aV}{f:Nat}{c:Bool}{x y:PV}:aF c (ip T f [x,gd c y])=aF c (ip T f [x,y]):=by cases c<;>rfl
@[simp]def aRS{c:Bool}{a b:PV}:cJ (.bool c) (gd c a) b=cJ (.bool c) a b:=by cases c<;>rfl
@[simp]def aRT{c:Bool}{a b:PV}:cJ (.bool c) a (gd (nt c) b)=cJ (.bool c) a b:=by cases c<;>rfl
@[simp]def aRU{g c:Bool}{a b:PV}:aF g (cJ (.bool c) (gd (an g c) a) b)=aF g (cJ (.bool c) a b):=by cases g<;>cases c<;>rfl
@[simp]def aRV{g c:Bool}{a b:PV}:aF g (cJ (.bool c) a (gd (an g (nt c)) b))=aF g (cJ (.bool c) a b):=by cases g<;>cases c<;>rfl
section
variable {T : aV} {K : List Kt} {fr : Fr} {S : St} {d t : Nat} {gb : Bool} {l : List aA}
def dj{op:bT}{q:Option PV}(h:bf T fr S op=dF S q):aE T (.ops (⟨some d,op,some (t,gb)⟩::l)::K) fr S=ob (cr (fr t) gb q) fun v=>aE T (.ops l::K) (upd fr d v) S:=by
 rw[ij];cases hv:fr t<;>try rfl
 ·rename_i c;rw[aHS];cases c<;>cases gb<;>simp only[aH1,aH2,aHZ,aH0,aHX,aHY,if_true,rJ,cH,Bool.true_eq_false,if_false]<;>first|rfl|exact dX h
 ·rename_i vs;cases vs<;>rfl
@[simp]def aRW{x:aH}:aE T (.ops (⟨some d,.mov x,some (t,gb)⟩::l)::K) fr S=ob (cr (fr t) gb (some (ev fr x))) fun v=>aE T (.ops l::K) (upd fr d v) S:=dj rfl
@[simp]def aRX{t':Nat}{x:aH}:aE T (.ops (⟨some d,.mkif t' x,some (t,gb)⟩::l)::K) fr S=ob (cr (fr t) gb (some (.iface t' (ev fr x)))) fun v=>aE T (.ops l::K) (upd fr d v) S:=dj rfl
@[simp]def aRY{f:Nat}{caps:List aH}:aE T (.ops (⟨some d,.mkfn f caps,some (t,gb)⟩::l)::K) fr S=ob (cr (fr t) gb (some (.fn f (caps.map (ev fr))))) fun v=>aE T (.ops l::K) (upd fr d v) S:=dj rfl
@[simp]def aRZ{c a b:aH}:aE T (.ops (⟨some d,.pick c a b,some (t,gb)⟩::l)::K) fr S=ob (cr (fr t) gb (cJ (ev fr c) (ev fr a) (ev fr b))) fun v=>aE T (.ops l::K) (upd fr d v) S:=dj rfl
@[simp]def aR0{o:BinOp}{x y:aH}:aE T (.ops (⟨some d,.arith o x y,some (t,gb)⟩::l)::K) fr S=ob (cr (fr t) gb (arith o (ev fr x) (ev fr y))) fun v=>aE T (.ops l::K) (upd fr d v) S:=dj rfl
@[simp]def aR1{o:UnOp}{x:aH}:aE T (.ops (⟨some d,.un o x,some (t,gb)⟩::l)::K) fr S=ob (cr (fr t) gb (unOp o (ev fr x))) fun v=>aE T (.ops l::K) (upd fr d v) S:=dj rfl
@[simp]def aR2{neg:Bool}{x y:aH}:aE T (.ops (⟨some d,.eqb neg x y,some (t,gb)⟩::l)::K) fr S=ob (cr (fr t) gb (fK neg (ev fr x) (ev fr y))) fun v=>aE T (.ops l::K) (upd fr d v) S:=dj rfl
@[simp]def aR3{neg:Bool}{k:NK}{x:aH}:aE T (.ops (⟨some d,.eqn neg k x,some (t,gb)⟩::l)::K) fr S=ob (cr (fr t) gb (gD neg k (ev fr x))) fun v=>aE T (.ops l::K) (upd fr d v) S:=dj rfl
@[simp]def aR4{x:aH}:aE T (.ops (⟨some d,.nilck x,some (t,gb)⟩::l)::K) fr S=ob (cr (fr t) gb (iE (ev fr x))) fun v=>aE T (.ops l::K) (upd fr d v) S:=dj (by simp only[bf,aG,aR];rfl)
@[simp]def aR5{neg isb:Bool}{n:Nat}{x y:aH}:aE T (.ops (⟨some d,.eqa neg isb n x y,some (t,gb)⟩::l)::K) fr S=ob (cr (fr t) gb (fI neg isb n (ev fr x) (ev fr y))) fun v=>aE T (.ops l::K) (upd fr d v) S:=dj (by simp only[bf,aG,aR];rfl)
@[simp]def aR6{neg:Bool}{n:Nat}{x y:aH}:aE T (.ops (⟨some d,.eqs neg n x y,some (t,gb)⟩::l)::K) fr S=ob (cr (fr t) gb (ED neg n (ev fr x) (ev fr y))) fun v=>aE T (.ops l::K) (upd fr d v) S:=dj (by simp only[bf,aG,aR];rfl)
@[simp]def aR7{k:IntKind}{x:aH}:aE T (.ops (⟨some d,.toInt k x,some (t,gb)⟩::l)::K) fr S=ob (cr (fr t) gb (jP k (ev fr x))) fun v=>aE T (.ops l::K) (upd fr d v) S:=dj (by simp only[bf,aG,aR];rfl)
@[simp]def aR8{x:aH}:aE T (.ops (⟨some d,.strId x,some (t,gb)⟩::l)::K) fr S=ob (cr (fr t) gb (jQ (ev fr x))) fun v=>aE T (.ops l::K) (upd fr d v) S:=dj (by simp only[bf,aG,aR];rfl)
@[simp]def aR9{x:aH}:aE T (.ops (⟨some d,.toStr x,some (t,gb)⟩::l)::K) fr S=ob (cr (fr t) gb (eX (ev fr x))) fun v=>aE T (.ops l::K) (upd fr d v) S:=dj rfl
@[simp]def aSa{ag:Bool}{off n:Nat}{x:aH}:aE T (.ops (⟨some d,.field ag off n x,some (t,gb)⟩::l)::K) fr S=ob (cr (fr t) gb (jR ag off n (ev fr x))) fun v=>aE T (.ops l::K) (upd fr d v) S:=dj (by simp only[bf,aG,aR];rfl)
@[simp]def aSb{z:List PV}{ps:List (Nat×Nat×aH)}:aE T (.ops (⟨some d,.build z ps,some (t,gb)⟩::l)::K) fr S=ob (cr (fr t) gb (aR fr (.build z ps))) fun v=>aE T (.ops l::K) (upd fr d v) S:=dj rfl
@[simp]def aSc{i:Nat}{x:aH}:aE T (.ops (⟨some d,.extract i x,some (t,gb)⟩::l)::K) fr S=ob (cr (fr t) gb (jS i (ev fr x))) fun v=>aE T (.ops l::K) (upd fr d v) S:=dj (by simp only[bf,aG,aR];rfl)
@[simp]def aSd{t':Nat}{ok:Bool}{z:PV}{x:aH}:aE T (.ops (⟨some d,.assert t' ok z x,some (t,gb)⟩::l)::K) fr S=ob (cr (fr t) gb (im t' ok z (ev fr x))) fun v=>aE T (.ops l::K) (upd fr d v) S:=dj (by simp only[bf,aG,aR];rfl)
@[simp]def aSe{x i:aH}:aE T (.ops (⟨some d,.idxs x i,some (t,gb)⟩::l)::K) fr S=ob (cr (fr t) gb (fA (ev fr x) (ev fr i))) fun v=>aE T (.ops l::K) (upd fr d v) S:=dj (by simp only[bf,aG,aR];rfl)
@[simp]def aSf{len n:Nat}{ag:Bool}{x i:aH}:aE T (.ops (⟨some d,.idxa len n ag x i,some (t,gb)⟩::l)::K) fr S=ob (cr (fr t) gb (fJ len n ag (ev fr x) (ev fr i))) fun v=>aE T (.ops l::K) (upd fr d v) S:=dj (by simp only[bf,aG,aR];rfl)
@[simp]def aSg{lo hi:Option aH}{x:aH}:aE T (.ops (⟨some d,.slcs lo hi x,some (t,gb)⟩::l)::K) fr S=ob (cr (fr t) gb (jT (bp fr lo) (bp fr hi) (ev fr x))) fun v=>aE T (.ops l::K) (upd fr d v) S:=dj (by simp only[bf,aG,aR];rfl)
@[simp]def aSh{sz:Nat}{lo hi:Option aH}{x:aH}:aE T (.ops (⟨some d,.slc sz lo hi x,some (t,gb)⟩::l)::K) fr S=ob (cr (fr t) gb (eM sz (bp fr lo) (bp fr hi) (ev fr x))) fun v=>aE T (.ops l::K) (upd fr d v) S:=dj (by simp only[bf,aG,aR];rfl)
@[simp]def aSi{len sz:Nat}{lo hi:Option aH}{x:aH}:aE T (.ops (⟨some d,.slca len sz lo hi x,some (t,gb)⟩::l)::K) fr S=ob (cr (fr t) gb (EC len sz (bp fr lo) (bp fr hi) (ev fr x))) fun v=>aE T (.ops l::K) (upd fr d v) S:=dj (by simp only[bf,aG,aR];rfl)
@[simp]def aSj{off:Nat}{x:aH}:aE T (.ops (⟨some d,.faddr off x,some (t,gb)⟩::l)::K) fr S=ob (cr (fr t) gb (io off (ev fr x))) fun v=>aE T (.ops l::K) (upd fr d v) S:=dj (by simp only[bf,aG,aR];rfl)
@[simp]def aSk{sz:Nat}{x i:aH}:aE T (.ops (⟨some d,.iaddr sz x i,some (t,gb)⟩::l)::K) fr S=ob (cr (fr t) gb (ca sz (ev fr x) (ev fr i))) fun v=>aE T (.ops l::K) (upd fr d v) S:=dj (by simp only[bf,aG,aR];rfl)
@[simp]def aSl{len sz:Nat}{x i:aH}:aE T (.ops (⟨some d,.iaddra len sz x i,some (t,gb)⟩::l)::K) fr S=ob (cr (fr t) gb (fB len sz (ev fr x) (ev fr i))) fun v=>aE T (.ops l::K) (upd fr d v) S:=dj (by simp only[bf,aG,aR];rfl)
@[simp]def aSm {st:Bool} {x:aH}:aE T (.ops (⟨some d,.len st x,some (t,gb)⟩::l)::K) fr S=ob (cr (fr t) gb (eN st (ev fr x))) fun v=>aE T (.ops l::K) (upd fr d v) S:=dj (by have h:bf T fr S (.len st x)=dF S (aR fr (.len st x)):=by {cases st<;>rfl};rw[h,VA])
@[simp]def aSn{mx:Bool}{x y:aH}:aE T (.ops (⟨some d,.mnmx mx x y,some (t,gb)⟩::l)::K) fr S=ob (cr (fr t) gb (fC mx (ev fr x) (ev fr y))) fun v=>aE T (.ops l::K) (upd fr d v) S:=dj (by simp only[bf,aG,aR];rfl)
@[simp]def aSo{d:Option Nat}{n:Nat}{a v:aH}:aE T (.ops (⟨d,.store n a v,some (t,gb)⟩::l)::K) fr S=fe (fr t) gb (aE T (.ops (⟨d,.store n a v,none⟩::l)::K) fr S) (aE T (.ops l::K) (aP fr d (.tup [])) S):=ij
@[simp]def aSp{d:Option Nat}{q:List Nat}{n:Nat}{a v:aH}:aE T (.ops (⟨d,.stb q n a v,some (t,gb)⟩::l)::K) fr S=fe (fr t) gb (aE T (.ops (⟨d,.stb q n a v,none⟩::l)::K) fr S) (aE T (.ops l::K) (aP fr d (.tup [])) S):=ij
@[simp]def aSq{d:Option Nat}{ro:Bool}{x:aH}:aE T (.ops (⟨d,.box ro x,some (t,gb)⟩::l)::K) fr S=fe (fr t) gb (aE T (.ops (⟨d,.box ro x,none⟩::l)::K) fr S) (aE T (.ops l::K) (aP fr d (.tup [])) S):=ij
@[simp]def aSr{d:Option Nat}{ro:Bool}{z:List PV}:aE T (.ops (⟨d,.alloc ro z,some (t,gb)⟩::l)::K) fr S=fe (fr t) gb (aE T (.ops (⟨d,.alloc ro z,none⟩::l)::K) fr S) (aE T (.ops l::K) (aP fr d (.tup [])) S):=ij
@[simp]def aSs{d:Option Nat}{ro:Bool}{ze:PV}{n:Nat}{ps:List (Nat×aH)}:aE T (.ops (⟨d,.bsl ro ze n ps,some (t,gb)⟩::l)::K) fr S=fe (fr t) gb (aE T (.ops (⟨d,.bsl ro ze n ps,none⟩::l)::K) fr S) (aE T (.ops l::K) (aP fr d (.tup [])) S):=ij
@[simp]def aSt{d:Option Nat}{ro:Bool}{x:aH}:aE T (.ops (⟨d,.toBytes ro x,some (t,gb)⟩::l)::K) fr S=fe (fr t) gb (aE T (.ops (⟨d,.toBytes ro x,none⟩::l)::K) fr S) (aE T (.ops l::K) (aP fr d (.tup [])) S):=ij
@[simp]def aSu{d:Option Nat}{sz b:Nat}{c:aH}:aE T (.ops (⟨d,.mks sz b c,some (t,gb)⟩::l)::K) fr S=fe (fr t) gb (aE T (.ops (⟨d,.mks sz b c,none⟩::l)::K) fr S) (aE T (.ops l::K) (aP fr d (.tup [])) S):=ij
@[simp]def aSv{d:Option Nat}{sz b:Nat}{s x:aH}:aE T (.ops (⟨d,.app sz b s x,some (t,gb)⟩::l)::K) fr S=fe (fr t) gb (aE T (.ops (⟨d,.app sz b s x,none⟩::l)::K) fr S) (aE T (.ops l::K) (aP fr d (.tup [])) S):=ij
@[simp]def aSw{d:Option Nat}{sz b:Nat}{s x:aH}:aE T (.ops (⟨d,.gapp sz b s x,some (t,gb)⟩::l)::K) fr S=fe (fr t) gb (aE T (.ops (⟨d,.gapp sz b s x,none⟩::l)::K) fr S) (aE T (.ops l::K) (aP fr d (.tup [])) S):=ij
@[simp]def aSx{d:Option Nat}{x:aH}:aE T (.ops (⟨d,.toStrO x,some (t,gb)⟩::l)::K) fr S=fe (fr t) gb (aE T (.ops (⟨d,.toStrO x,none⟩::l)::K) fr S) (aE T (.ops l::K) (aP fr d (.tup [])) S):=ij
@[simp]def aSy{d:Option Nat}{m:CM}{f:Nat}{xs:List aH}:aE T (.ops (⟨d,.call m f xs,some (t,gb)⟩::l)::K) fr S=fe (fr t) gb (aE T (.ops (⟨d,.call m f xs,none⟩::l)::K) fr S) (aE T (.ops l::K) (aP fr d (.tup [])) S):=ij
@[simp]def aSz{d:Option Nat}{m:CM}{x:aH}{xs:List aH}:aE T (.ops (⟨d,.callv m x xs,some (t,gb)⟩::l)::K) fr S=fe (fr t) gb (aE T (.ops (⟨d,.callv m x xs,none⟩::l)::K) fr S) (aE T (.ops l::K) (aP fr d (.tup [])) S):=ij
@[simp]def aSA{d:Option Nat}{cm:CM}{m:Nat}{x:aH}{xs:List aH}:aE T (.ops (⟨d,.inv cm m x xs,some (t,gb)⟩::l)::K) fr S=fe (fr t) gb (aE T (.ops (⟨d,.inv cm m x xs,none⟩::l)::K) fr S) (aE T (.ops l::K) (aP fr d (.tup [])) S):=ij
def aH3{ag:Bool}{n:Nat}{mix:Bool}{x:aH}:bf T fr S (.load ag n mix x)=dF S (if mix then(match ev fr x with|.ref cs=>bG ag n cs|_=>none)else dD S ag n (ev fr x)):=by
 cases mix
 ·simp only[bf,aG,cH,if_false];cases ev fr x<;>simp only[dD]<;>try rfl
  case ptr id off=>
   cases h:S.objs[id]? with
   |none=>rfl
   |some cs=>cases h2:bG ag n (cs.drop off)<;>simp[h2,dF]
 ·rfl
@[simp]def aSB{ag:Bool}{n:Nat}{mix:Bool}{x:aH}:aE T (.ops (⟨some d,.load ag n mix x,some (t,gb)⟩::l)::K) fr S=ob (cr (fr t) gb (if mix then(match ev fr x with|.ref cs=>bG ag n cs|_=>none)else dD S ag n (ev fr x))) fun v=>aE T (.ops l::K) (upd fr d v) S:=dj aH3
@[simp 1100] def aSC {f:Nat}{xs:List aH}:aE T (.ops (⟨some d,.call .pur f xs,some (t,gb)⟩::l)::K) fr S=ob (cr (fr t) gb (ip T f (xs.map (ev fr)))) fun v=>aE T (.ops l::K) (upd fr d v) S:=by
 refine dj ?_;show dP (aN T) .pur f _ S=_;rw[Sh];unfold ip;split<;>rfl
end
@[simp]def aSD{T:aV}{f:Nat}{args:List PV}{S:St}:dP (aN T) .std f args S=aN T f args S:=rfl
@[simp]def aSE{S:St}{v:PV}:dF S (some v)=some (v,S):=rfl
@[simp]def aSF{S:St}:dF S none=none:=rfl
@[simp]def aH4{r:PV}{S:St}:wE (some (r,S))=if r.free then some r.frz else none:=rfl
def pP{T:aV}{f:Nat}{args:List PV}{r:PV}{S:St}(h:aN T f args cS=some (r,S))(hf:r.free=true):fc T f args=some r.frz:=by
 rw[fc,h,aH4,if_pos hf]
def VD{T:aV}{f:Nat}{c:aX}(hf:T.fn f=some (.code c)){args:List PV}{S:St}{x:PV×St}(ha:args.length=c.params)
  (h:ob (aE T [.code c.body] (bk args) S) (fun y=>ob (cF y.1 y.2 c.results) fun vs=>some (aW c.raw S y.2 (bb vs)))=some x):aN T f args S=some x:=by
 refine aCv c hf ha ?_
 cases hg:aE T [.code c.body] (bk args) S with
 |none=>rw[hg]at h;cases h
 |some y=>
  rw[hg]at h;simp only[rJ]at h;simp only[yD]
  cases hr:cF y.1 y.2 c.results with
  |none=>rw[hr]at h;cases h
  |some vs=>rw[hr]at h;exact h
attribute [simp] bk cF gu bb
@[simp]def aSG(S:St)(sz:Nat)(es:List PV):(dy S sz es).1=.sl (some (S.tips.length,es.length)) es []:=rfl
@[simp]def aSH(S:St)(sz:Nat)(es:List PV):(dy S sz es).2.objs=S.objs:=rfl
@[simp]def aSI(S:St)(sz:Nat)(es:List PV):(dy S sz es).2.tips=S.tips++[(es.length,sz)]:=rfl
def au{n:Int}(h1:-9223372036854775808≤n)(h2:n<9223372036854775808):IntKind.i64.wrap n=n:=by
 have e:IntKind.i64.wrap n=if n%18446744073709551616≥9223372036854775808 then n%18446744073709551616-18446744073709551616 else n%18446744073709551616:=by
  simp[IntKind.wrap,IntKind.bits,IntKind.signed]
 rw[e];split<;>omega
def VE{n:Int}(h1:0≤n)(h2:n<256):IntKind.u8.wrap n=n:=by
 have e:IntKind.u8.wrap n=n%256:=by
  simp[IntKind.wrap,IntKind.bits,IntKind.signed]
 rw[e];omega
def pQ{a:Nat}(h:a<9223372036854775807):IntKind.i64.wrap ((a:Int)+1)=((a+1:Nat):Int):=by
 rw[au]<;>omega
def aH5{S1:St}{r r':PV}(h:ai S1.objs 0 eU r=some r'):aW false cS S1 r=(r'.frz,cS):=by
 unfold aW;simp only[cH,if_false];have h0:cS.objs.length=0:=rfl;have h1:cS.tips.length=0:=rfl;rw[h0,h,h1];simp[PV.beqLL,cS]
@[simp]def aSJ{S1:St}{r:PV}(h:r.free=true):aW false cS S1 r=(r.frz,cS):=by
 refine aH5 ?_;unfold eU ai;rw[if_pos h]
def iq{b:Bool}{S S1:St}{r:PV}(h1:S1.objs.length=S.objs.length)(h2:S1.tips=S.tips)(hf:r.free=true)(hz:r.frz=r)(hq:∀l m:List (List PV),PV.beqLL l m=true→l=m):aW b S S1 r=(r,S1):=by
 unfold aW;have hs:ai S1.objs S.objs.length eU r=some r:=by unfold eU ai;rw[if_pos hf]
 have ht:S1.objs.take S.objs.length=S1.objs:=by rw[←h1];simp
 have ht2:S1.tips.take S.tips.length=S1.tips:=by rw[h2];simp
 rw[hs,ht,ht2];split
 ·rfl
 ·simp only[hz];split
  ·rename_i h;rw[←hq _ _ h]
  ·split<;>rfl
def Acc(sz:Nat)(S:St)(v:PV)(es:List PV):Prop:=
 (v=.nils∧es=[])∨∃id,v=.sl (some (id,es.length)) es []∧S.tips[id]?=some (es.length,sz)
end Ps
