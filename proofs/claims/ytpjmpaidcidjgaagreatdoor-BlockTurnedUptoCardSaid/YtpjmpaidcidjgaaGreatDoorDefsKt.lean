/- Defs. -/
import GoSem.Core.Code
import GoSem.Core.View
import GoSem.Op.String
set_option linter.defProp false
namespace Ps
open Go
inductive PV where
 |und
 |int (k:IntKind) (n:Int)
 |bool (b:Bool)
 |str (s:List UInt8)
 |nilp
 |nils
 |nili
 |nilf
 |ptr (id off:Nat)
 |ref (cs:List PV)
 |sl (tip:Option (Nat×Nat)) (es sp:List PV)
 |osl (id off len sz:Nat)
 |emp
 |iface (t:Nat) (v:PV)
 |agg (cs:List PV)
 |tup (vs:List PV)
 |fn (f:Nat) (caps:List PV)
 |nilm
 |map (id:Nat)
 |bfn (f:Nat) (first:List PV)
 |hnd (b:Nat)
 deriving Inhabited
mutual
def PV.beq:PV→PV→Bool
 |.und,.und=>true
 |.int k n,.int l m=>k==l&&n==m
 |.bool a,.bool b=>a==b
 |.str s,.str t=>s==t
 |.nilp,.nilp=>true
 |.nils,.nils=>true
 |.nili,.nili=>true
 |.nilf,.nilf=>true
 |.ptr a b,.ptr c d=>a==c&&b==d
 |.ref a,.ref b=>PV.beqL a b
 |.sl t a b,.sl u c d=>t==u&&PV.beqL a c&&PV.beqL b d
 |.osl a b c s,.osl d e f t=>a==d&&b==e&&c==f&&s==t
 |.emp,.emp=>true
 |.iface t v,.iface u x=>t==u&&PV.beq v x
 |.agg a,.agg b=>PV.beqL a b
 |.tup a,.tup b=>PV.beqL a b
 |.fn f a,.fn g b=>f==g&&PV.beqL a b
 |.nilm,.nilm=>true
 |.hnd a,.hnd b=>a==b
 |.map a,.map b=>a==b
 |.bfn f a,.bfn g b=>f==g&&PV.beqL a b
 |_,_=>false
def PV.beqL:List PV→List PV→Bool
 | [],[]=>true
 |a::l,b::m=>PV.beq a b&&PV.beqL l m
 |_,_=>false
end
def PV.beqLL:List (List PV)→List (List PV)→Bool
 | [],[]=>true
 |a::l,b::m=>PV.beqL a b&&PV.beqLL l m
 |_,_=>false
mutual
def PV.free:PV→Bool
 |.ptr ..=>false
 |.osl ..=>false
 |.emp=>false
 |.und=>false
 |.ref cs=>PV.freeL cs
 |.sl _ es sp=>PV.freeL es&&PV.freeL sp
 |.iface _ v=>PV.free v
 |.agg cs=>PV.freeL cs
 |.tup vs=>PV.freeL vs
 |.fn _ cs=>PV.freeL cs
 |.bfn _ cs=>PV.freeL cs
 |.map _=>false
 |.hnd _=>false
 |_=>true
def PV.freeL:List PV→Bool
 | []=>true
 |a::l=>PV.free a&&PV.freeL l
end
mutual
def PV.frz:PV→PV
 |.ref cs=>.ref (PV.frzL cs)
 |.sl _ es sp=>.sl none (PV.frzL es) (PV.frzL sp)
 |.iface t v=>.iface t (PV.frz v)
 |.agg cs=>.agg (PV.frzL cs)
 |.tup vs=>.tup (PV.frzL vs)
 |.fn f cs=>.fn f (PV.frzL cs)
 |.bfn f cs=>.bfn f (PV.frzL cs)
 |v=>v
def PV.frzL:List PV→List PV
 | []=>[]
 |a::l=>PV.frz a::PV.frzL l
end
def PV.cells:PV→List PV
 |.agg cs=>cs
 |v=>[v]
mutual
def PV.scal:PV→Bool
 |.int ..|.bool _|.str _|.nilp|.nils|.nili|.nilf|.nilm=>true
 |.iface _ v=>PV.scal v
 |.agg cs=>PV.scalL cs
 |.tup vs=>PV.scalL vs
 |_=>false
def PV.scalL:List PV→Bool
 | []=>true
 |a::l=>PV.scal a&&PV.scalL l
end
def PV.one:PV→Bool
 |.agg _|.tup _|.und=>false
 |_=>true
structure St where
 objs:List (List PV)
 tips:List (Nat×Nat)
inductive CM where
 |std|keep|pur|snap
 deriving DecidableEq
inductive NK where
 |p|s|i|f|m
 deriving DecidableEq
def gS(sz:Nat):List PV→Bool
 |e::_=>e.cells.length==sz
 | []=>true
inductive aG where
 |tmp (t:Nat)
 |cst (v:PV)
inductive bC where
 |mov (x:aG)
 |pick (c a b:aG)
 |nilck (x:aG)
 |arith (op:BinOp) (x y:aG)
 |eqb (neg:Bool) (x y:aG)
 |eqn (neg:Bool) (k:NK) (x:aG)
 |eqa (neg isb:Bool) (n:Nat) (x y:aG)
 |eqs (neg:Bool) (n:Nat) (x y:aG)
 |un (op:UnOp) (x:aG)
 |toInt (k:IntKind) (x:aG)
 |strId (x:aG)
 |toStr (x:aG)
 |field (ag:Bool) (off n:Nat) (x:aG)
 |build (z:List PV) (parts:List (Nat×Nat×aG))
 |mkif (t:Nat) (x:aG)
 |mkfn (f:Nat) (caps:List aG)
 |extract (i:Nat) (x:aG)
 |assert (t:Nat) (ok:Bool) (z:PV) (x:aG)
 |idxs (x i:aG)
 |idxa (len n:Nat) (ag:Bool) (x i:aG)
 |slcs (lo hi:Option aG) (x:aG)
 |slc (sz:Nat) (lo hi:Option aG) (x:aG)
 |slca (len sz:Nat) (lo hi:Option aG) (x:aG)
 |faddr (off:Nat) (x:aG)
 |iaddr (sz:Nat) (x i:aG)
 |iaddra (len sz:Nat) (x i:aG)
 |len (st:Bool) (x:aG)
 |mnmx (mx:Bool) (x y:aG)
 |load (ag:Bool) (n:Nat) (mix:Bool) (x:aG)
 |loadb (b:Nat) (ag:Bool) (n:Nat) (x:aG)
 |store (n:Nat) (a v:aG)
 |stb (l:List Nat) (n:Nat) (a v:aG)
 |box (ro:Bool) (x:aG)
 |alloc (ro:Bool) (z:List PV)
 |bsl (ro:Bool) (ze:PV) (len:Nat) (parts:List (Nat×aG))
 |app (sz bytes:Nat) (s x:aG)
 |toBytes (ro:Bool) (x:aG)
 |mks (sz bytes:Nat) (c:aG)
 |mkm
 |mlk (ks ok:Bool) (z:PV) (x k:aG)
 |mset (ks:Bool) (x k v:aG)
 |mdel (ks:Bool) (x k:aG)
 |mlen (x:aG)
 |slc3 (sz:Nat) (lo:Option aG) (hi mx:aG) (x:aG)
 |mkbfn (f:Nat) (first:List aG)
 |gapp (sz bytes:Nat) (s x:aG)
 |toStrO (x:aG)
 |emp3 (x:aG)
 |emp0
 |gclr (sz:Nat) (z:List PV) (x:aG)
 |plk (ar ok:Bool) (z:PV) (x k:aG)
 |pset (ar:Bool) (x k v:aG)
 |men (z:PV) (x k:aG)
 |mko (sz bytes:Nat) (z:List PV) (c:aG)
 |nst (n:Nat) (x:aG)
 |msb (l:List Nat) (ks:Bool) (x k v:aG)
 |asrI (l:List Nat) (x:aG)
 |est (x k v:aG)
 |wc (l:List Nat) (x:aG) (args:List aG)
 |pan (x:aG)
 |rcv
 |call (m:CM) (f:Nat) (args:List aG)
 |callb (b:Nat) (f:Nat) (args:List aG)
 |callv (m:CM) (x:aG) (args:List aG)
 |inv (cm:CM) (m:Nat) (x:aG) (args:List aG)
 |bad
structure aA where
 dst:Option Nat
 op:bC
 guard:Option (Nat×Bool)
inductive aN where
 |skip
 |ret
 |exit (n:Nat)
 |region (ops:List aA)
 |seq (a b:aN)
 |cond (c:aG) (t e:aN)
 |block (n:Nat) (b:aN)
 |loop (b:aN)
 |clr (l:List (Nat×Nat)) (b:aN)
 |rng (pre:List aA) (x:aG) (en:Nat) (post:List aA) (l:List (Nat×Nat)) (b:aN)
 |scope (b:aN)
 |bad
inductive kY where
 |tmp (t:Nat)
 |cell (t:Nat) (ag:Bool) (n:Nat)
structure aT where
 params:Nat
 results:List kY
 body:aN
 raw:Bool
structure dg where
 params:Nat
 results:List kY
 pre:List aN
 clo:aA
 t:Nat
 rest:aN
 raw:Bool
 rcl:Option (Nat×aT):=none
inductive nK where
 |code (f:aT)
 |codeD (f:dg)
 |indexByte
 |ext (e:List PV→Option PV)
 |exs (e:List PV→St→Option (PV×St))
structure aM where
 fn:Nat→Option nK
 meth:Nat→Nat→Option Nat
abbrev Fr:=Nat→PV
def Fr.bot:Fr:=fun _=>.und
def upd(fr:Fr)(d:Nat)(v:PV):Fr:=fun t=>cond (t==d) v (fr t)
def cg(fr:Fr)(d:Nat)(v:PV)(t:Nat):upd fr d v t=if t=d then v else fr t:=by
 unfold upd;by_cases h:t=d
 ·subst h;simp
 ·have:(t==d)=false:=by simpa using h
  rw[this,if_neg h];rfl
def gC(lo hi t:Nat):Bool:=(lo-t==0)&&(t+1-hi==0)
def eM(lo hi:Nat)(fr:Fr):Fr:=fun t=>cond (gC lo hi t) .und (fr t)
def clrs:List (Nat×Nat)→Fr→Fr
 | [],fr=>fr
 |(a,b)::l,fr=>clrs l (eM a b fr)
def aO(fr:Fr)(d:Option Nat)(v:PV):Fr:=match d with|some d=>upd fr d v|none=>fr
def ev(fr:Fr):aG→PV
 |.tmp t=>fr t
 |.cst v=>v
def bj(fr:Fr):Option aG→Option PV
 |none=>none
 |some x=>some (ev fr x)
def fO(op:BinOp)(k:IntKind)(a b:Int):Option PV:=
 match op with
 |.add=>some (.int k (k.wrap (a+b)))
 |.sub=>some (.int k (k.wrap (a-b)))
 |.mul=>some (.int k (k.wrap (a*b)))
 |.quo=>if b=0 then none else some (.int k (k.wrap (a.tdiv b)))
 |.rem=>if b=0 then none else some (.int k (a.tmod b))
 |.and=>some (.int k (k.wrap (BitVec.ofInt k.bits a &&& BitVec.ofInt k.bits b).toNat))
 |.or=>some (.int k (k.wrap (BitVec.ofInt k.bits a ||| BitVec.ofInt k.bits b).toNat))
 |.xor=>some (.int k (k.wrap (BitVec.ofInt k.bits a ^^^ BitVec.ofInt k.bits b).toNat))
 |.andNot=>some (.int k (k.wrap (BitVec.ofInt k.bits a &&& ~~~BitVec.ofInt k.bits b).toNat))
 |.eql=>some (.bool (a==b))
 |.neq=>some (.bool (a != b))
 |.lss=>some (.bool (a<b))
 |.leq=>some (.bool (a≤b))
 |.gtr=>some (.bool (a>b))
 |.geq=>some (.bool (a≥b))
 |_=>none
def nL(op:BinOp)(k:IntKind)(a b:Int):Option PV:=
 if b<0 then none else
 match op with
 |.shl=>some (.int k (k.wrap (a*2^(min b.toNat k.bits))))
 |.shr=>some (.int k (a.fdiv (2^(min b.toNat k.bits))))
 |_=>none
def Mb(op:BinOp)(a b:List UInt8):Option PV:=
 match op with
 |.add=>if a.length+b.length≤9223372036854775807 then some (.str (a++b))else none
 |.eql=>some (.bool (a==b))
 |.neq=>some (.bool !(a==b))
 |.lss=>some (.bool (Op.bytesLess a b))
 |.leq=>some (.bool (Op.bytesLess a b||a==b))
 |.gtr=>some (.bool !(Op.bytesLess a b||a==b))
 |.geq=>some (.bool !(Op.bytesLess a b))
 |_=>none
def eN:BinOp→Bool
 |.shl|.shr=>true
 |_=>false
def arith(op:BinOp):PV→PV→Option PV
 |.int k a,.int l b=>if eN op then nL op k a b else if k=l then fO op k a b else none
 |.str a,.str b=>Mb op a b
 |_,_=>none
def fe(neg:Bool)(b:Bool):PV:=.bool (if neg then !b else b)
def isNil:NK→PV→Option Bool
 |.p,.nilp|.s,.nils|.i,.nili|.f,.nilf|.m,.nilm=>some true
 |.p,.ptr ..|.p,.ref _|.s,.sl ..|.s,.osl ..|.s,.emp|.i,.iface ..|.f,.fn ..|.f,.bfn ..|.m,.map _=>some false
 |_,_=>none
def dR(isb:Bool):List PV→List PV→Option Bool
 | [],[]=>some true
 |.bool a::l,.bool b::m=>if isb then(match dR isb l m with|some r=>some (a==b&&r)|none=>none)else none
 |.int k a::l,.int j b::m=>if !isb&&k=j then(match dR isb l m with|some r=>some (a==b&&r)|none=>none)else none
 |_,_=>none
def unOp:UnOp→PV→Option PV
 |.not,.bool b=>some (.bool !b)
 |.neg,.int k n=>some (.int k (k.wrap (0-n)))
 |.xor,.int k n=>some (.int k (k.wrap (BitVec.ofInt k.bits (if k.signed then -1 else k.max) ^^^ BitVec.ofInt k.bits n).toNat))
 |_,_=>none
def jE:List PV→Option (List UInt8)
 | []=>some []
 |.int .u8 n::l=>match jE l with|some r=>some (UInt8.ofNat n.toNat::r)|none=>none
 |_=>none
def aJ(s:List UInt8):List PV:=s.map fun b=>.int .u8 b.toNat
def ap(ag:Bool)(n:Nat)(cs:List PV):Option PV:=
 if n≤cs.length then(if ag then some (.agg (cs.take n))else match cs with|c::_=>if n=1 then some c else none | []=>none)else none
def bB(cs:List PV)(off:Nat)(vs:List PV):List PV:=cs.take off++vs++cs.drop (off+vs.length)
def ff(fr:Fr):List (Nat×Nat×aG)→List PV→Option (List PV)
 | [],cs=>some cs
 |(off,n,x)::rest,cs=>
  let v:=(ev fr x).cells
  if v.length=n∧off+n≤cs.length∧v.all PV.one then ff fr rest (bB cs off v)else none
def dh(y:Nat):PV→Option Nat
 |.int _ i=>if 0≤i∧i≤y then some i.toNat else none
 |_=>none
def fP(len cap:Nat):Option PV→Option Nat
 |some v=>dh cap v
 |none=>some len
def iN(h:Nat):Option PV→Option Nat
 |some v=>dh h v
 |none=>some 0
def cC(len cap:Nat)(lo hi:Option PV):Option (Nat×Nat):=
 match fP len cap hi with
 |none=>none
 |some h=>match iN h lo with
  |none=>none
  |some l=>if l≤h then some (l,h)else none
def lm:bC→Bool
 |.load _ _ mix _=>mix
 |.store ..|.stb ..|.box ..|.alloc ..|.bsl ..|.app ..|.toBytes ..|.mks ..|.call ..|.callv ..|.inv ..|.loadb ..|.callb ..|.mkm|.mlk ..|.mset ..|.mdel ..|.mlen _|.slc3 ..|.gapp ..|.toStrO _|.emp0|.gclr ..|.plk ..|.pset ..|.mko ..|.nst ..|.msb ..|.men ..|.est ..|.wc ..|.pan _|.rcv|.bad=>false
 |_=>true
def gy:bC→Bool
 |.box ro _|.alloc ro _|.bsl ro _ _ _|.toBytes ro _=>ro
 |.call m _ _|.callv m _ _|.inv m _ _ _=>m==.pur
 |.emp0=>true
 |op=>lm op
def aQ(fr:Fr):bC→Option PV
 |.mov x=>some (ev fr x)
 |.pick c a b=>match ev fr c with|.bool true=>some (ev fr a)|.bool false=>some (ev fr b)|_=>none
 |.nilck x=>match ev fr x with
  |.ptr i o=>some (.ptr i o)
  |.ref cs=>some (.ref cs)
  |.iface t v=>some (.iface t v)
  |.fn f cs=>some (.fn f cs)
  |.bfn f cs=>some (.bfn f cs)
  |_=>none
 |.arith op x y=>arith op (ev fr x) (ev fr y)
 |.eqb neg x y=>match ev fr x,ev fr y with|.bool a,.bool b=>some (fe neg (a==b))|_,_=>none
 |.eqn neg k x=>match isNil k (ev fr x)with|some b=>some (fe neg b)|none=>none
 |.eqa neg isb n x y=>match ev fr x,ev fr y with
  |.agg a,.agg b=>if a.length=n∧b.length=n then(match dR isb a b with|some r=>some (fe neg r)|none=>none)else none
  |_,_=>none
 |.eqs neg n x y=>match ev fr x,ev fr y with
  |.agg a,.agg b=>if a.length=n∧b.length=n then(match dR false a b with|some r=>some (fe neg r)|none=>none)else none
  |_,_=>none
 |.un op x=>unOp op (ev fr x)
 |.toInt k x=>match ev fr x with|.int _ n=>some (.int k (k.wrap n))|_=>none
 |.strId x=>match ev fr x with|.str s=>some (.str s)|_=>none
 |.toStr x=>match ev fr x with
  |.nils=>some (.str [])
  |.emp=>some (.str [])
  |.sl _ es _=>match jE es with|some s=>some (.str s)|none=>none
  |_=>none
 |.field ag off n x=>match ev fr x with|.agg cs=>ap ag n (cs.drop off)|_=>none
 |.build z parts=>match ff fr parts z with|some cs=>some (.agg cs)|none=>none
 |.mkif t x=>some (.iface t (ev fr x))
 |.mkfn f caps=>some (.fn f (caps.map (ev fr)))
 |.mkbfn f first=>some (.bfn f (first.map (ev fr)))
 |.extract i x=>match ev fr x with|.tup vs=>vs[i]?|_=>none
 |.assert t ok z x=>match ev fr x with
  |.nili=>if ok then some (.tup [z,.bool false])else none
  |.iface u v=>if u=t then some (if ok then .tup [v,.bool true]else v)else(if ok then some (.tup [z,.bool false])else none)
  |_=>none
 |.asrI l x=>match ev fr x with
  |.iface u v=>if l.contains u then some (.tup [.iface u v,.bool true])else none
  |_=>none
 |.idxs x i=>match ev fr x,ev fr i with
  |.str s,.int _ j=>if 0≤j then(match s[j.toNat]? with|some b=>some (.int .u8 b.toNat)|none=>none)else none
  |_,_=>none
 |.idxa len n ag x i=>match ev fr x,ev fr i with
  |.agg cs,.int _ j=>if 0≤j∧j<len then ap ag n (cs.drop (j.toNat*n))else none
  |_,_=>none
 |.slcs lo hi x=>match ev fr x with
  |.str s=>match cC s.length s.length (bj fr lo) (bj fr hi)with
   |some (l,h)=>some (.str ((s.take h).drop l))
   |none=>none
  |_=>none
 |.slc sz lo hi x=>match ev fr x with
  |.nils=>match cC 0 0 (bj fr lo) (bj fr hi)with|some _=>some .nils|none=>none
  |.sl tip es sp=>if !gS sz (es++sp)then none else match cC es.length (es.length+sp.length) (bj fr lo) (bj fr hi)with
   |some (l,h)=>some (.sl (if h=es.length then tip else none) (((es++sp).take h).drop l) ((es++sp).drop h))
   |none=>none
  |.osl id off len sz'=>if sz'=sz∧0<sz then(match cC len len (bj fr lo) (bj fr hi)with
   |some (l,h)=>if l=0∨l<h then some (.osl id (off+l*sz) (h-l) sz)else none
   |none=>none)else none
  |.emp=>match cC 0 0 (bj fr lo) (bj fr hi)with|some _=>some .emp|none=>none
  |_=>none
 |.emp3 x=>match ev fr x with
  |.nils=>some .nils
  |.sl ..=>some .emp
  |.osl ..=>some .emp
  |.emp=>some .emp
  |_=>none
 |.slca len sz lo hi x=>match ev fr x with
  |.ptr id off=>match cC len len (bj fr lo) (bj fr hi)with
   |some (l,h)=>if l<h then some (.osl id (off+l*sz) (h-l) 0)else none
   |none=>none
  |.ref cs=>if sz=1∧cs.length=len∧cs.all PV.one=true then(match cC len len (bj fr lo) (bj fr hi)with
   |some (l,h)=>if l<h then some (.sl none ((cs.take h).drop l) (cs.drop h))else none
   |none=>none)else none
  |_=>none
 |.faddr off x=>match ev fr x with
  |.ptr id o=>some (.ptr id (o+off))
  |.ref cs=>if off≤cs.length then some (.ref (cs.drop off))else none
  |_=>none
 |.iaddr sz x i=>match ev fr x,ev fr i with
  |.sl _ es _,.int _ j=>if 0≤j then(match es[j.toNat]? with|some e=>if e.cells.length=sz then some (.ref e.cells)else none|none=>none)else none
  |.osl id off n _,.int _ j=>if 0≤j∧j<n then some (.ptr id (off+j.toNat*sz))else none
  |_,_=>none
 |.iaddra len sz x i=>match ev fr x,ev fr i with
  |.ptr id off,.int _ j=>if 0≤j∧j<len then some (.ptr id (off+j.toNat*sz))else none
  |.ref cs,.int _ j=>if 0≤j∧j<len∧j.toNat*sz≤cs.length then some (.ref (cs.drop (j.toNat*sz)))else none
  |_,_=>none
 |.len true x=>match ev fr x with
  |.str s=>some (.int .i64 s.length)
  |_=>none
 |.len false x=>match ev fr x with
  |.nils=>some (.int .i64 0)
  |.sl _ es _=>some (.int .i64 es.length)
  |.osl _ _ n _=>some (.int .i64 n)
  |.emp=>some (.int .i64 0)
  |_=>none
 |.mnmx mx x y=>match ev fr x,ev fr y with
  |.int k a,.int l b=>if k=l then some (.int k (if mx then(if b>a then b else a)else(if b<a then b else a)))else none
  |_,_=>none
 |.load ag n true x=>match ev fr x with|.ref cs=>ap ag n cs|_=>none
 |_=>none
def cR (S:St) (cs:List PV):PV×St:=(.ptr S.objs.length 0,{S with objs:=S.objs++[cs]})
def dF (S:St) (sz:Nat) (es:List PV):PV×St:=(.sl (some (S.tips.length,es.length)) es [],{S with tips:=S.tips++[(es.length,sz)]})
def eP(fr:Fr)(sz:Nat):List (Nat×aG)→List PV→Option (List PV)
 | [],es=>some es
 |(i,x)::rest,es=>
  let v:=ev fr x
  if v.cells.length=sz∧v.cells.all PV.one∧i<es.length then eP fr sz rest (es.set i v)else none
def jl(sz:Nat):PV→Option (List PV)
 |.nils=>some []
 |.str s=>if sz=1 then some (aJ s)else none
 |.sl _ es _=>if gS sz es then some es else none
 |.emp=>some []
 |_=>none
def nM(sz:Nat)(cs:List PV):PV:=match cs with | [c]=>if sz=1 then c else .agg [c]|cs=>.agg cs
def dA(sz:Nat):Nat→List PV→List PV
 |0,_=>[]
 |n+1,cs=>nM sz (cs.take sz)::dA sz n (cs.drop sz)
def dS(S:St)(sz:Nat):PV→Option (List PV)
 |.osl id off len sz'=>match S.objs[id]? with
  |some cs=>if sz'=sz∧0<sz∧off+len*sz≤cs.length∧((cs.drop off).take (len*sz)).all PV.one=true then some (dA sz len (cs.drop off))else none
  |none=>none
 |v=>jl sz v
def dT(sz bytes:Nat)(S:St)(s:PV)(new:List PV):Option (PV×St):=
 match s with
 |.nils=>if new.isEmpty then some (.nils,S)else if new.length*bytes≤140737488355328 then some (dF S sz new)else none
 |.sl tip es sp=>
  if new.isEmpty then some (.sl tip es sp,S)else
  match tip,sp with
  |some (id,e),[]=>
   if S.tips[id]?=some (e,sz)∧(es.length+new.length)*bytes≤140737488355328 then
    some (.sl (some (id,e+new.length)) (es++new) [],{S with tips:=S.tips.set id (e+new.length,sz)})
   else none
  |_,_=>none
 |.emp=>if new.isEmpty then some (.emp,S)else if new.length*bytes≤140737488355328 then some (dF S sz new)else none
 |_=>none
def jm (S:St) (sz:Nat) (new:List PV):PV×St:=(.osl S.objs.length 0 new.length sz,{S with objs:=S.objs++[new.flatMap PV.cells]})
def gD(sz bytes:Nat)(S:St)(s:PV)(new:List PV):Option (PV×St):=
 if new.isEmpty then(match s with|.nils=>some (.nils,S)|.emp=>some (.emp,S)|.osl id off len sz'=>if sz'=sz then some (.osl id off len sz',S)else none|_=>none)else
 match s with
 |.nils=>if new.length*bytes≤140737488355328 then some (jm S sz new)else none
 |.emp=>if new.length*bytes≤140737488355328 then some (jm S sz new)else none
 |.osl id off len sz'=>(match S.objs[id]? with
  |some cs=>if sz'=sz∧off=0∧0<cs.length∧len*sz≤cs.length∧(cs.take (len*sz)).all PV.one=true∧(len+new.length)*bytes≤140737488355328 then
    some (.osl S.objs.length 0 (len+new.length) sz,{S with objs:=S.objs.set id []++[cs.take (len*sz)++new.flatMap PV.cells]})else none
  |none=>none)
 |_=>none
abbrev aX:=Nat→List PV→St→Option (PV×St)
def lr(keep:Bool)(S:St):Option (PV×St)→Option (PV×St)
 |none=>none
 |some (v,S')=>if keep then(if PV.beqLL (S'.objs.take S.objs.length) S.objs then some (v,S')else none)else some (v,S')
def bF:St:=⟨[],[]⟩
def rZ:Option (PV×St)→Option PV
 |some (r,_)=>if r.free then some r.frz else none
 |none=>none
def gT(call:aX)(f:Nat)(args:List PV):Option PV:=
 if PV.freeL args then rZ (call f (PV.frzL args) bF)else none
def ck(S:St):Option PV→Option (PV×St)
 |some v=>some (v,S)
 |none=>none
def cD(f:PV→Option PV):List PV→Option (List PV)
 | []=>some []
 |a::l=>match f a with
  |some b=>(match cD f l with|some m=>some (b::m)|none=>none)
  |none=>none
def aj(objs:List (List PV))(n0:Nat):Nat→PV→Option PV
 |0,_=>none
 |k+1,v=>if v.free then some v else
  match v with
  |.ptr id off=>if n0≤id then(match objs[id]? with
    |some cs=>if off≤cs.length then(match cD (aj objs n0 k) (cs.drop off)with|some ds=>some (.ref ds)|none=>none)else none
    |none=>none)else none
  |.ref cs=>match cD (aj objs n0 k) cs with|some ds=>some (.ref ds)|none=>none
  |.iface t u=>match aj objs n0 k u with|some x=>some (.iface t x)|none=>none
  |.agg cs=>match cD (aj objs n0 k) cs with|some ds=>some (.agg ds)|none=>none
  |.tup cs=>match cD (aj objs n0 k) cs with|some ds=>some (.tup ds)|none=>none
  |.fn f cs=>match cD (aj objs n0 k) cs with|some ds=>some (.fn f ds)|none=>none
  |.sl tip es sp=>match cD (aj objs n0 k) es,cD (aj objs n0 k) sp with|some a,some b=>some (.sl tip a b)|_,_=>none
  |.osl id off len sz=>if n0≤id∧0<sz then(match objs[id]? with
    |some cs=>if off+len*sz≤cs.length∧((cs.drop off).take (len*sz)).all PV.one=true then(match cD (aj objs n0 k) ((cs.drop off).take (len*sz))with|some ds=>some (.sl none (dA sz len ds) [])|none=>none)else none
    |none=>none)else none
  |.emp=>some (.sl none [] [])
  |_=>none
def dJ:Nat:=40
def jn(call:aX)(f:Nat)(args:List PV)(S:St):Option PV:=
 match cD (aj S.objs 0 dJ) args with
 |some as=>(match call f (PV.frzL as) bF with
  |some (r,_)=>if r.scal then some r else none
  |none=>none)
 |none=>none
def cE(call:aX)(m:CM)(f:Nat)(args:List PV)(S:St):Option (PV×St):=
 match m with
 |.std=>call f args S
 |.keep=>lr true S (call f args S)
 |.pur=>ck S (gT call f args)
 |.snap=>ck S (jn call f args S)
def kZ:PV→PV→Option Bool
 |.str a,.str b=>some (a==b)
 |.int k a,.int l b=>if k=l then some (a==b)else none
 |_,_=>none
def iO(k:PV):List PV→Option (Option PV)
 | []=>some none
 | [_]=>some none
 |q::v::r=>match kZ k q with
  |some true=>some (some v)
  |some false=>iO k r
  |none=>none
def fg(k v:PV):List PV→Option (List PV)
 | []=>some [k,v]
 | [_]=>none
 |q::u::r=>match kZ k q with
  |some true=>if r.length%2=0 then some (k::v::r)else none
  |some false=>(match fg k v r with|some s=>some (q::u::s)|none=>none)
  |none=>none
def jF(k:PV):List PV→Option (List PV)
 | []=>some []
 | [_]=>none
 |q::u::r=>match kZ k q with
  |some true=>if r.length%2=0 then some r else none
  |some false=>(match jF k r with|some s=>some (q::u::s)|none=>none)
  |none=>none
def ra:PV→Bool
 |.str _|.int ..|.ptr ..|.agg [.str _,.str _]=>true
 |_=>false
def eB:Bool→PV→Bool
 |true,.str _=>true
 |false,.int ..=>true
 |_,_=>false
def gz(ok:Bool)(z:PV):Option PV→PV
 |some v=>if ok then .tup [v,.bool true]else v
 |none=>if ok then .tup [z,.bool false]else z
def cK(ar:Bool)(_S:St):PV→Bool
 |.agg [.str _,.str _]=>ar
 |_=>false
def du(ar:Bool)(S:St):List PV→Bool
 |k::_::r=>cK ar S k&&du ar S r
 |_=>true
def cL(k:PV):List PV→Option PV
 |q::v::r=>if PV.beq q k then some v else cL k r
 |_=>none
def ci(k v:PV):List PV→List PV
 |q::u::r=>if PV.beq q k then k::v::r else q::u::ci k v r
 |_=>[k,v]
def rb(S:St)(sz:Nat)(lo:Option PV)(hi mx:PV):PV→Option (PV×St)
 |.nils=>(match dh 0 mx,dh 0 hi,iN 0 lo with|some _,some _,some _=>some (.nils,S)|_,_,_=>none)
 |.sl (some _) es sp=>if gS sz (es++sp)=true∧0<sz then(match dh (es.length+sp.length) mx with
   |some m=>(match dh m hi with
    |some h=>(match iN h lo with
     |some l=>if m=h then some (.sl (some (S.tips.length,h-l+1)) (((es++sp).take h).drop l) [],{S with tips:=S.tips++[(h-l+1,sz)]})else none
     |none=>none)
    |none=>none)
   |none=>none)else none
 |_=>none
def nN(fr:Fr)(l:List Nat)(id:Nat):Bool:=l.all fun t=>match fr t with|.ptr i _=>i != id|_=>false
def lu(id:Nat)(S:St):Option (PV×St)→Option (PV×St)
 |some (v,S')=>match S.objs[id]?,S'.objs[id]? with
  |some a,some b=>if PV.beqL a b then some (v,S')else none
  |_,_=>none
 |none=>none
def cx(fr:Fr)(ze:PV)(len:Nat)(parts:List (Nat×aG)):Option (List PV):=
 if 0<ze.cells.length∧ze.cells.all PV.one∧len*ze.cells.length≤16777216 then eP fr ze.cells.length parts (List.replicate len ze)else none
def aH(T:aM)(call:aX)(fr:Fr)(S:St):bC→Option (PV×St)
 |.load ag n false x=>match ev fr x with
  |.ref cs=>match ap ag n cs with|some v=>some (v,S)|none=>none
  |.ptr id off=>match S.objs[id]? with
   |some cs=>match ap ag n (cs.drop off)with|some v=>some (v,S)|none=>none
   |none=>none
  |_=>none
 |.loadb b ag n x=>match fr b,ev fr x with
  |.ptr i _,.ptr id off=>if i=id then(match S.objs[id]? with
   |some cs=>match ap ag n (cs.drop off)with|some v=>some (v,S)|none=>none
   |none=>none)else none
  |_,_=>none
 |.mkm=>some (.map S.objs.length,{S with objs:=S.objs++[[]]})
 |.mlk ks ok z x k=>if eB ks (ev fr k)then(match ev fr x with
  |.nilm=>some (gz ok z none,S)
  |.map id=>(match S.objs[id]? with
   |some cs=>(match iO (ev fr k) cs with|some r=>some (gz ok z r,S)|none=>none)
   |none=>none)
  |_=>none)else none
 |.mset ks x k v=>match ev fr x with
  |.map id=>(match S.objs[id]? with
   |some cs=>(match fg (ev fr k) (ev fr v) cs with|some ds=>if eB ks (ev fr k)then some (.und,{S with objs:=S.objs.set id ds})else none|none=>none)
   |none=>none)
  |_=>none
 |.mdel ks x k=>match ev fr x with
  |.map id=>(match S.objs[id]? with
   |some cs=>(match jF (ev fr k) cs with|some ds=>if eB ks (ev fr k)then some (.tup [],{S with objs:=S.objs.set id ds})else none|none=>none)
   |none=>none)
  |_=>none
 |.plk ar ok z x k=>match ev fr x with
  |.map id=>(match S.objs[id]? with
   |some cs=>if cK ar S (ev fr k)=true∧du ar S cs=true then some (gz ok z (cL (ev fr k) cs),S)else none
   |none=>none)
  |_=>none
 |.pset ar x k v=>match ev fr x with
  |.map id=>(match S.objs[id]? with
   |some cs=>if cK ar S (ev fr k)=true∧du ar S cs=true∧cs.length%2=0 then some (.und,{S with objs:=S.objs.set id (ci (ev fr k) (ev fr v) cs)})else none
   |none=>none)
  |_=>none
 |.mko sz bytes z c=>match ev fr c with
  |.int .i64 n=>if 1≤n∧n*bytes≤140737488355328∧0<sz∧0<bytes∧z.length=sz∧z.all PV.one then some (.osl S.objs.length 0 0 sz,{S with objs:=S.objs++[z]})else none
  |_=>none
 |.nst n x=>if(ev fr x).cells.length=n∧(ev fr x).cells.all PV.one then some (cR S (ev fr x).cells)else none
 |.msb l ks x k v=>match ev fr x with
  |.map id=>(match S.objs[id]? with
   |some cs=>(match fg (ev fr k) (ev fr v) cs with|some ds=>if nN fr l id=true∧eB ks (ev fr k)=true then some (.und,{S with objs:=S.objs.set id ds})else none|none=>none)
   |none=>none)
  |_=>none
 |.men z x k=>match ev fr x with
  |.map id=>(match S.objs[id]? with
   |some cs=>if cK true S (ev fr k)=true∧du true S cs=true∧cs.length%2=0 then
     some (.tup [(cL (ev fr k) cs).getD z,.und],{S with objs:=S.objs.set id (ci (ev fr k) ((cL (ev fr k) cs).getD z) cs++[.und])})else none
   |none=>none)
  |_=>none
 |.est x k v=>match ev fr x with
  |.map id=>(match S.objs[id]? with
   |some cs=>if cK true S (ev fr k)=true∧du true S cs.dropLast=true∧cs.length%2=1 then
     some (.und,{S with objs:=S.objs.set id (ci (ev fr k) (ev fr v) cs.dropLast)})else none
   |none=>none)
  |_=>none
 |.mlen x=>match ev fr x with
  |.nilm=>some (.int .i64 0,S)
  |.map id=>(match S.objs[id]? with|some cs=>some (.int .i64 ((cs.length/2:Nat):Int),S)|none=>none)
  |_=>none
 |.slc3 sz lo hi mx x=>rb S sz (bj fr lo) (ev fr hi) (ev fr mx) (ev fr x)
 |.callb b f args=>match fr b with
  |.ptr i _=>lu i S (call f (args.map (ev fr)) S)
  |_=>none
 |.store n a v=>match ev fr a with
  |.ptr id off=>match S.objs[id]? with
   |some cs=>
    let vs:=(ev fr v).cells
    if vs.length=n∧off+n≤cs.length∧vs.all PV.one then some (.und,{S with objs:=S.objs.set id (bB cs off vs)})else none
   |none=>none
  |_=>none
 |.stb l n a v=>match ev fr a with
  |.ptr id off=>match S.objs[id]? with
   |some cs=>
    let vs:=(ev fr v).cells
    if nN fr l id=true∧vs.length=n∧off+n≤cs.length∧vs.all PV.one then some (.und,{S with objs:=S.objs.set id (bB cs off vs)})else none
   |none=>none
  |_=>none
 |.box ro x=>if(ev fr x).cells.all PV.one then some (if ro then(.ref (ev fr x).cells,S)else cR S (ev fr x).cells)else none
 |.alloc ro z=>if z.all PV.one then some (if ro then(.ref z,S)else cR S z)else none
 |.bsl ro ze len parts=>match cx fr ze len parts with
  |some es=>some (if ro then(.sl none es [],S)else dF S ze.cells.length es)
  |none=>none
 |.app sz bytes s x=>match dS S sz (ev fr x)with
  |some new=>if 0<sz then dT sz bytes S (ev fr s) new else none
  |none=>none
 |.gapp sz bytes s x=>match dS S sz (ev fr x)with
  |some new=>if 0<sz then gD sz bytes S (ev fr s) new else none
  |none=>none
 |.toStrO x=>match ev fr x with
  |.osl id off len sz=>(match S.objs[id]? with
   |some cs=>if sz=1∧off+len≤cs.length then(match jE ((cs.drop off).take len)with|some s=>some (.str s,S)|none=>none)else none
   |none=>none)
  |.nils=>some (.str [],S)
  |.emp=>some (.str [],S)
  |.sl _ es _=>(match jE es with|some s=>some (.str s,S)|none=>none)
  |_=>none
 |.emp0=>some (.emp,S)
 |.gclr sz z x=>match ev fr x with
  |.osl id off len sz'=>(match S.objs[id]? with
   |some cs=>if sz'=sz∧0<sz∧z.length=sz∧z.all PV.one∧off+len*sz≤cs.length then some (.tup [],{S with objs:=S.objs.set id (bB cs off (List.replicate len z).flatten)})else none
   |none=>none)
  |_=>none
 |.toBytes ro x=>match ev fr x with|.str s=>some (if ro then(.sl none (aJ s) [],S)else dF S 1 (aJ s))|_=>none
 |.mks sz bytes c=>match ev fr c with
  |.int .i64 n=>if 0≤n∧n*bytes≤140737488355328∧0<sz∧0<bytes then some (dF S sz [])else none
  |_=>none
 |.call m f args=>cE call m f (args.map (ev fr)) S
 |.callv m x args=>match ev fr x with
  |.fn f caps=>cE call m f (args.map (ev fr)++caps) S
  |.bfn f first=>cE call m f (first++args.map (ev fr)) S
  |_=>none
 |.inv cm m x args=>match ev fr x with
  |.iface t v=>match T.meth t m with
   |some f=>cE call cm f (v::args.map (ev fr)) S
   |none=>none
  |_=>none
 |.wc ..=>none
 |.pan _=>none
 |.rcv=>none
 |.bad=>none
 |o=>ck S (aQ fr o)
def bW(fr:Fr):Option (Nat×Bool)→Option Bool
 |none=>some true
 |some (t,b)=>match fr t with
  |.bool c=>some (c==b)
  |.tup []=>some false
  |_=>none
def aY(T:aM)(call:aX):List aA→Fr→St→Option (Fr×St)
 | [],fr,S=>some (fr,S)
 |o::rest,fr,S=>
  match bW fr o.guard with
  |none=>none
  |some false=>aY T call rest (aO fr o.dst (.tup [])) S
  |some true=>match aH T call fr S o.op with
   |some (v,S')=>aY T call rest (aO fr o.dst v) S'
   |none=>none
inductive Ex where
 |norm
 |exit (n:Nat)
 |ret
def kc(iter:PV→PV→Fr→St→Option (Fr×St)):List (PV×PV)→Fr→St→Option (Fr×St)
 | [],fr,S=>some (fr,S)
 |(k,v)::r,fr,S=>match iter k v fr S with
  |some (fr',S')=>kc iter r fr' S'
  |none=>none
def jo:List PV→List (PV×PV)
 |k::v::r=>(k,v)::jo r
 |_=>[]
open Classical in
noncomputable def pN (iter:PV→PV→Fr→St→Option (Fr×St))(l:List (PV×PV))(fr:Fr)(S:St):Option (Fr×St):=
 match kc iter l fr S with
 |some r=>if l.length≤1 then some r else if ∀p:List (PV×PV),p.Perm l→kc iter p fr S=some r then some r else none
 |none=>none
def re(T:aM)(call:aX)(run:Fr→St→Option (Ex×Fr×St))(id:Nat)(cs:List PV)(en:Nat)(post:List aA)(l:List (Nat×Nat))(k v:PV)(fr:Fr)(S:St):Option (Fr×St):=
 match aY T call post (aO fr (some en) (.tup [k,v])) S with
 |some (fr2,S2)=>(match run fr2 S2 with
  |some (.norm,fr3,S3)=>(match S3.objs[id]? with
   |some ds=>if PV.beqL ds cs then some (clrs l fr3,S3)else none
   |none=>none)
  |_=>none)
 |none=>none
noncomputable def iP (T:aM)(call:aX)(run:Fr→St→Option (Ex×Fr×St))(x:aG)(en:Nat)(post:List aA)(l:List (Nat×Nat))(fr:Fr)(S:St):Option (Fr×St):=
 match ev fr x with
 |.map id=>(match S.objs[id]? with
  |some cs=>pN (re T call run id cs en post l) (jo cs) (clrs l fr) S
  |none=>none)
 |_=>none
noncomputable def aU (T:aM)(call:aX):Nat→aN→Fr→St→Option (Ex×Fr×St)
 |0,_,_,_=>none
 |_+1,.skip,fr,S=>some (.norm,fr,S)
 |_+1,.ret,fr,S=>some (.ret,fr,S)
 |_+1,.exit n,fr,S=>some (.exit n,fr,S)
 |_+1,.region ops,fr,S=>match aY T call ops fr S with|some (fr',S')=>some (.norm,fr',S')|none=>none
 |k+1,.seq a b,fr,S=>match aU T call k a fr S with
  |some (.norm,fr',S')=>aU T call k b fr' S'
  |r=>r
 |k+1,.cond c t e,fr,S=>match ev fr c with
  |.bool true=>aU T call k t fr S
  |.bool false=>aU T call k e fr S
  |_=>none
 |k+1,.block n b,fr,S=>match aU T call k b fr S with
  |some (.exit m,fr',S')=>if m=n then some (.norm,fr',S')else some (.exit m,fr',S')
  |r=>r
 |k+1,.loop b,fr,S=>match aU T call k b fr S with
  |some (.norm,fr',S')=>aU T call k (.loop b) fr' S'
  |r=>r
 |k+1,.scope b,fr,S=>aU T call k b fr S
 |k+1,.clr l b,fr,S=>match aU T call k b fr S with
  |some (.norm,fr',S')=>some (.norm,clrs l fr',S')
  |r=>r
 |k+1,.rng pre x en post l b,fr,S=>match aY T call pre fr S with
  |some (fr1,S1)=>(match iP T call (fun fr S=>aU T call k b fr S) x en post l fr1 S1 with
   |some (fr',S')=>some (.norm,fr',S')
   |none=>none)
  |none=>none
 |_+1,.bad,_,_=>none
def bX(args:List PV):Fr:=fun t=>(args[t]?).getD .und
def hI(fr:Fr)(S:St):kY→Option PV
 |.tmp t=>some (fr t)
 |.cell t ag n=>match fr t with
  |.ref cs=>ap ag n cs
  |.ptr id off=>match S.objs[id]? with
   |some cs=>ap ag n (cs.drop off)
   |none=>none
  |_=>none
def bb(fr:Fr)(S:St):List kY→Option (List PV)
 | []=>some []
 |r::l=>match hI fr S r,bb fr S l with
  |some v,some vs=>some (v::vs)
  |_,_=>none
def bP:List PV→PV
 | [v]=>v
 |vs=>.tup vs
def kd:List (List PV)→Bool
 | []=>true
 |a::l=>PV.freeL a&&kd l
def ac(raw:Bool)(S0 S1:St)(r:PV):PV×St:=
 if raw then(r,S1)else
 match aj S1.objs S0.objs.length dJ r with
 |none=>(r,S1)
 |some r'=>
  if PV.beqLL (S1.objs.take S0.objs.length) S0.objs then(r'.frz,⟨S0.objs,S1.tips.take S0.tips.length⟩)
  else if kd (S1.objs.take S0.objs.length)then(r',⟨S1.objs.take S0.objs.length,S1.tips⟩)
  else(r,S1)
def Mc:List PV→Option PV
 | [.str s,.int .u8 c]=>some (.int .i64 (match(List.range s.length).find? (fun i=>(s.getD i 0)==UInt8.ofNat c.toNat)with|some i=>(i:Int)|none=>-1))
 |_=>none
def wr(sep:List UInt8):List (List UInt8)→List UInt8
 | []=>[]
 | [x]=>x
 |x::y::r=>x++sep++wr sep (y::r)
def Md:List PV→Option (List (List UInt8))
 | []=>some []
 |.str s::l=>match Md l with|some r=>some (s::r)|none=>none
 |_=>none
def aGg:List PV→Option PV
 | [.nils,.str _]=>some (.str [])
 | [.sl _ es _,.str sep]=>match Md es with
  |some xs=>if xs.length≤140737488355328∧(wr sep xs).length≤140737488355328 then some (.str (wr sep xs))else none
  |none=>none
 |_=>none
def Me:Option nK→Bool
 |some (.code _)=>true
 |_=>false
noncomputable def jG (T:aM)(call:aX)(k:Nat):List aN→Fr→St→Option (Fr×St)
 | [],fr,S=>some (fr,S)
 |p::ps,fr,S=>match aU T call k p fr S with
  |some (.norm,fr1,S1)=>jG T call k ps fr1 S1
  |_=>none
noncomputable def pO (call:aX)(cf:Nat)(caps:List PV)(fr:Fr)(S:St):Option (Fr×St):=
 match call cf caps S with
 |some (_,S')=>some (fr,S')
 |none=>none
noncomputable def ke (T:aM)(call:aX)(k:Nat)(c:aT)(caps:List PV)(fr:Fr)(S:St):Option (Fr×St):=
 if caps.length=c.params then
  match aU T call k c.body (bX caps) S with
  |some (.norm,fr',S')=>(match bb fr' S' c.results with|some vs=>some (fr,(ac c.raw S S' (bP vs)).2)|none=>none)
  |some (.ret,fr',S')=>(match bb fr' S' c.results with|some vs=>some (fr,(ac c.raw S S' (bP vs)).2)|none=>none)
  |_=>none
 else none
noncomputable def jH (T:aM)(call:aX)(k:Nat)(f:dg)(cf:Nat)(caps:List PV)(fr:Fr)(S:St):Option (Fr×St):=
 match f.rcl with
 |none=>if Me (T.fn cf)then pO call cf caps fr S else none
 |some (cf',c)=>if cf=cf' then ke T call k c caps fr S else none
noncomputable def jI (T:aM)(call:aX)(k:Nat)(f:dg)(fr:Fr)(S:St):Option (Fr×St):=
 match jG T call k f.pre fr S with
 |none=>none
 |some (fr1,S1)=>match aY T call [f.clo] fr1 S1 with
  |none=>none
  |some (fr2,S2)=>match fr2 f.t with
   |.fn cf caps=>(match aU T call k f.rest fr2 S2 with
    |some (.norm,fr3,S3)=>jH T call k f cf caps fr3 S3
    |some (.ret,fr3,S3)=>jH T call k f cf caps fr3 S3
    |_=>none)
   |_=>none
noncomputable def ax (T:aM):Nat→aX
 |0,_,_,_=>none
 |k+1,g,args,S=>match T.fn g with
  |none=>none
  |some .indexByte=>match Mc args with|some v=>some (v,S)|none=>none
  |some (.ext e)=>match e args with|some v=>some (v,S)|none=>none
  |some (.exs e)=>e args S
  |some (.codeD f)=>
   if args.length=f.params then
    match jI T (ax T k) k f (bX args) S with
    |some (fr,S')=>(match bb fr S' f.results with|some vs=>some (ac f.raw S S' (bP vs))|none=>none)
    |none=>none
   else none
  |some (.code f)=>
   if args.length=f.params then
    match aU T (ax T k) k f.body (bX args) S with
    |some (.norm,fr,S')=>(match bb fr S' f.results with|some vs=>some (ac f.raw S S' (bP vs))|none=>none)
    |some (.ret,fr,S')=>(match bb fr S' f.results with|some vs=>some (ac f.raw S S' (bP vs))|none=>none)
    |_=>none
   else none
end Ps
