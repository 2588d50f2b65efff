/- Defs. -/
import Init
import GoSem.Core.Code
import GoSem.Core.View
import GoSem.Op.String
set_option linter.defProp false
namespace Ps
def VF:=@Array.all_eq_true_iff_forall_mem
def uH:=@Array.eq_empty_of_size_eq_zero
def xe:=@Array.ext
def fh:=@Array.getD_eq_getD_getElem?
def jU:=@Array.getElem?_append_left
def EI:=@Array.getElem?_append_right
def gE:=@Array.getElem?_eq_getElem
def cO:=@Array.getElem?_eq_some_iff
def EJ:=@Array.getElem?_extract
def xf:=@Array.getElem?_map
def nj:=@Array.getElem?_modify
def xg:=@Array.getElem?_range
def gn:=@Array.getElem?_setIfInBounds_ne
def iF:=@Array.getElem?_toList
def gT:=@Array.length_toList
def uI:=@Array.size_append
def EK:=@Bool.and_assoc
def aJ:=@Bool.and_eq_true
def pR:=@Bool.eq_false_iff
def rK:=@Bool.eq_iff_iff
def cH:=@Bool.false_eq_true
def iG:=@Bool.not_eq_true'
def xh:=@Bool.not_true
def ir:=@Bool.or_eq_true
def xi:=@Int.eq_ofNat_of_zero_le
def pS:=@Int.fdiv_eq_ediv_of_nonneg
def EL:=@Int.mul_comm
def uJ:=@Int.tmod_eq_emod_of_nonneg
def rL:=@Int.toNat_natCast
def uK:=@List.Perm.refl
def EM:=@List.all_append
def EN:=@List.all_cons
def fi:=@List.append_assoc
def eP:=@List.append_nil
def nk:=@List.cons.injEq
def iH:=@List.cons_append
def xj:=@List.drop_append_of_le_length
def rM:=@List.drop_eq_getElem_cons
def EO:=@List.drop_eq_nil_of_le
def EP:=@List.drop_left
def EQ:=@List.drop_length
def ER:=@List.drop_of_length_le
def ES:=@List.drop_take
def jz:=@List.drop_zero
def xk:=@List.eq_nil_of_length_eq_zero
def rN:=@List.eq_of_mem_replicate
def iV:=@List.ext_getElem?
def ET:=@List.filter_append
def xl:=@List.filter_congr
def EU:=@List.filter_cons_of_neg
def VG:=@List.filter_cons_of_pos
def nl:=@List.filter_eq_nil_iff
def kc:=@List.filter_eq_self
def EV:=@List.filter_sublist
def nm:=@List.flatMap_append
def dd:=@List.flatMap_cons
def EW:=@List.flatMap_def
def xn:=@List.forIn_cons
def bJ:=@List.forall_mem_cons
def bK:=@List.getElem?_append_left
def fU:=@List.getElem?_append_right
def EY:=@List.getElem?_cons_succ
def mR:=@List.getElem?_cons_zero
def iu:=@List.getElem?_drop
def dY:=@List.getElem?_eq_none
def aM:=@List.getElem?_eq_some_iff
def iv:=@List.getElem?_map
def iI:=@List.getElem?_of_mem
def lM:=@List.getElem?_set
def bU:=@List.getElem?_set_ne
def cK:=@List.getElem?_set_self
def dH:=@List.getElem?_take_of_lt
def uL:=@List.getElem?_zipIdx
def dz:=@List.getElem_of_mem
def uM:=@List.getLast?_eq_some_iff
def VH:=@List.idxOf_lt_length_of_mem
def uN:=@List.isEmpty_cons
def am:=@List.length_append
def bL:=@List.length_cons
def kd:=@List.length_drop
def jV:=@List.length_eq_zero_iff
def uO:=@List.length_filter_le
def bz:=@List.length_map
def EZ:=@List.length_mergeSort
def cW:=@List.length_nil
def xp:=@List.length_replicate
def uP:=@List.length_set
def iW:=@List.length_take
def xq:=@List.lt_irrefl
def eQ:=@List.map_append
def mS:=@List.map_congr_left
def cb:=@List.map_cons
def rO:=@List.map_drop
def rP:=@List.map_id
def pT:=@List.map_map
def pU:=@List.map_nil
def np:=@List.map_take
def bg:=@List.mem_append
def rQ:=@List.mem_append_left
def dI:=@List.mem_cons
def lN:=@List.mem_filter
def VI:=@List.mem_of_find?_eq_some
def eB:=@List.mem_of_getElem?
def gN:=@List.mem_of_mem_drop
def kA:=@List.mem_of_mem_take
def VJ:=@List.mem_or_eq_of_mem_set
def jW:=@List.mem_singleton
def mT:=@List.nil_append
def Ea:=@List.nodup_append
def pV:=@List.nodup_cons
def pW:=@List.nodup_range
def xr:=@List.not_mem_nil
def uQ:=@List.pairwise_cons
def Eb:=@List.pairwise_iff_getElem
def Ec:=@List.perm_cons_erase
def mU:=@List.range'_succ
def pX:=@List.range_eq_range'
def uR:=@List.set_append_left
def xu:=@List.set_append_right
def uS:=@List.set_set
def uT:=@List.size_toArray
def pY:=@List.sum_cons
def xw:=@List.take_add
def Ed:=@List.take_append
def ke:=@List.take_append_drop
def lO:=@List.take_append_of_le_length
def pZ:=@List.take_left
def kf:=@List.take_length
def lP:=@List.take_of_length_le
def dk:=@Nat.add_assoc
def kB:=@Nat.add_comm
def dl:=@Nat.add_mul
def nq:=@Nat.add_sub_cancel
def gU:=@Nat.add_zero
def uU:=@Nat.div_add_mod
def nr:=@Nat.div_lt_iff_lt_mul
def xx:=@Nat.div_one
def xy:=@Nat.le_max_left
def xz:=@Nat.le_max_right
def VK:=@Nat.le_mul_of_pos_right
def yA:=@Nat.le_of_eq
def aU:=@Nat.le_refl
def Ee:=@Nat.lt_of_le_of_lt
def kg:=@Nat.lt_of_lt_of_le
def iw:=@Nat.lt_or_ge
def uV:=@Nat.min_eq_left
def iy:=@Nat.mod_eq_of_lt
def mV:=@Nat.mod_lt
def nu:=@Nat.mul_comm
def yB:=@Nat.mul_eq_zero
def iX:=@Nat.mul_le_mul_right
def rR:=@Nat.mul_one
def nv:=@Nat.pow_le_pow_right
def uW:=@Nat.pow_succ
def yC:=@Nat.sub_self
def uX:=@Nat.sub_zero
def dO:=@Nat.zero_add
def cP:=@Nat.zero_le
def VL:=@Option.bind_eq_some_iff
def yD:=@Option.bind_some
def Ef:=@Option.getD_some
def nw:=@Option.isNone_iff_eq_none
def rS:=@Option.isSome_iff_exists
def kh:=@Option.map_some
def iz:=@Option.some.inj
def ap:=@Option.some.injEq
def bc:=@Prod.mk.injEq
end Ps
set_option linter.defProp false
namespace Ps
open Go
inductive PV where
 |und
 |int (k:IntKind) (n:Int)
 |bool (b:Bool)
 |str (s:List UInt8)
 |nilp
 |nils
 |nili
 |nilf
 |ptr (id off:Nat)
 |ref (cs:List PV)
 |sl (tip:Option (Nat×Nat)) (es sp:List PV)
 |osl (id off len sz:Nat)
 |emp
 |iface (t:Nat) (v:PV)
 |agg (cs:List PV)
 |tup (vs:List PV)
 |fn (f:Nat) (caps:List PV)
 |nilm
 |map (id:Nat)
 |bfn (f:Nat) (first:List PV)
 |hnd (b:Nat)
 deriving Inhabited
mutual
def PV.beq:PV→PV→Bool
 |.und,.und=>true
 |.int k n,.int l m=>k==l&&n==m
 |.bool a,.bool b=>a==b
 |.str s,.str t=>s==t
 |.nilp,.nilp=>true
 |.nils,.nils=>true
 |.nili,.nili=>true
 |.nilf,.nilf=>true
 |.ptr a b,.ptr c d=>a==c&&b==d
 |.ref a,.ref b=>PV.beqL a b
 |.sl t a b,.sl u c d=>t==u&&PV.beqL a c&&PV.beqL b d
 |.osl a b c s,.osl d e f t=>a==d&&b==e&&c==f&&s==t
 |.emp,.emp=>true
 |.iface t v,.iface u x=>t==u&&PV.beq v x
 |.agg a,.agg b=>PV.beqL a b
 |.tup a,.tup b=>PV.beqL a b
 |.fn f a,.fn g b=>f==g&&PV.beqL a b
 |.nilm,.nilm=>true
 |.hnd a,.hnd b=>a==b
 |.map a,.map b=>a==b
 |.bfn f a,.bfn g b=>f==g&&PV.beqL a b
 |_,_=>false
def PV.beqL:List PV→List PV→Bool
 | [],[]=>true
 |a::l,b::m=>PV.beq a b&&PV.beqL l m
 |_,_=>false
end
def PV.beqLL:List (List PV)→List (List PV)→Bool
 | [],[]=>true
 |a::l,b::m=>PV.beqL a b&&PV.beqLL l m
 |_,_=>false
mutual
def PV.free:PV→Bool
 |.ptr ..=>false
 |.osl ..=>false
 |.emp=>false
 |.und=>false
 |.ref cs=>PV.freeL cs
 |.sl _ es sp=>PV.freeL es&&PV.freeL sp
 |.iface _ v=>PV.free v
 |.agg cs=>PV.freeL cs
 |.tup vs=>PV.freeL vs
 |.fn _ cs=>PV.freeL cs
 |.bfn _ cs=>PV.freeL cs
 |.map _=>false
 |.hnd _=>false
 |_=>true
def PV.freeL:List PV→Bool
 | []=>true
 |a::l=>PV.free a&&PV.freeL l
end
mutual
def PV.frz:PV→PV
 |.ref cs=>.ref (PV.frzL cs)
 |.sl _ es sp=>.sl none (PV.frzL es) (PV.frzL sp)
 |.iface t v=>.iface t (PV.frz v)
 |.agg cs=>.agg (PV.frzL cs)
 |.tup vs=>.tup (PV.frzL vs)
 |.fn f cs=>.fn f (PV.frzL cs)
 |.bfn f cs=>.bfn f (PV.frzL cs)
 |v=>v
def PV.frzL:List PV→List PV
 | []=>[]
 |a::l=>PV.frz a::PV.frzL l
end
def PV.cells:PV→List PV
 |.agg cs=>cs
 |v=>[v]
mutual
def PV.scal:PV→Bool
 |.int ..|.bool _|.str _|.nilp|.nils|.nili|.nilf|.nilm=>true
 |.iface _ v=>PV.scal v
 |.agg cs=>PV.scalL cs
 |.tup vs=>PV.scalL vs
 |_=>false
def PV.scalL:List PV→Bool
 | []=>true
 |a::l=>PV.scal a&&PV.scalL l
end
def PV.one:PV→Bool
 |.agg _|.tup _|.und=>false
 |_=>true
structure St where
 objs:List (List PV)
 tips:List (Nat×Nat)
inductive CM where
 |std|keep|pur|snap
 deriving DecidableEq
inductive NK where
 |p|s|i|f|m
 deriving DecidableEq
def jF(sz:Nat):List PV→Bool
 |e::_=>e.cells.length==sz
 | []=>true
inductive aH where
 |tmp (t:Nat)
 |cst (v:PV)
inductive bT where
 |mov (x:aH)
 |pick (c a b:aH)
 |nilck (x:aH)
 |arith (op:BinOp) (x y:aH)
 |eqb (neg:Bool) (x y:aH)
 |eqn (neg:Bool) (k:NK) (x:aH)
 |eqa (neg isb:Bool) (n:Nat) (x y:aH)
 |eqs (neg:Bool) (n:Nat) (x y:aH)
 |un (op:UnOp) (x:aH)
 |toInt (k:IntKind) (x:aH)
 |strId (x:aH)
 |toStr (x:aH)
 |field (ag:Bool) (off n:Nat) (x:aH)
 |build (z:List PV) (parts:List (Nat×Nat×aH))
 |mkif (t:Nat) (x:aH)
 |mkfn (f:Nat) (caps:List aH)
 |extract (i:Nat) (x:aH)
 |assert (t:Nat) (ok:Bool) (z:PV) (x:aH)
 |idxs (x i:aH)
 |idxa (len n:Nat) (ag:Bool) (x i:aH)
 |slcs (lo hi:Option aH) (x:aH)
 |slc (sz:Nat) (lo hi:Option aH) (x:aH)
 |slca (len sz:Nat) (lo hi:Option aH) (x:aH)
 |faddr (off:Nat) (x:aH)
 |iaddr (sz:Nat) (x i:aH)
 |iaddra (len sz:Nat) (x i:aH)
 |len (st:Bool) (x:aH)
 |mnmx (mx:Bool) (x y:aH)
 |load (ag:Bool) (n:Nat) (mix:Bool) (x:aH)
 |loadb (b:Nat) (ag:Bool) (n:Nat) (x:aH)
 |store (n:Nat) (a v:aH)
 |stb (l:List Nat) (n:Nat) (a v:aH)
 |box (ro:Bool) (x:aH)
 |alloc (ro:Bool) (z:List PV)
 |bsl (ro:Bool) (ze:PV) (len:Nat) (parts:List (Nat×aH))
 |app (sz bytes:Nat) (s x:aH)
 |toBytes (ro:Bool) (x:aH)
 |mks (sz bytes:Nat) (c:aH)
 |mkm
 |mlk (ks ok:Bool) (z:PV) (x k:aH)
 |mset (ks:Bool) (x k v:aH)
 |mdel (ks:Bool) (x k:aH)
 |mlen (x:aH)
 |slc3 (sz:Nat) (lo:Option aH) (hi mx:aH) (x:aH)
 |mkbfn (f:Nat) (first:List aH)
 |gapp (sz bytes:Nat) (s x:aH)
 |toStrO (x:aH)
 |emp3 (x:aH)
 |emp0
 |gclr (sz:Nat) (z:List PV) (x:aH)
 |plk (ar ok:Bool) (z:PV) (x k:aH)
 |pset (ar:Bool) (x k v:aH)
 |men (z:PV) (x k:aH)
 |mko (sz bytes:Nat) (z:List PV) (c:aH)
 |nst (n:Nat) (x:aH)
 |msb (l:List Nat) (ks:Bool) (x k v:aH)
 |asrI (l:List Nat) (x:aH)
 |est (x k v:aH)
 |wc (l:List Nat) (x:aH) (args:List aH)
 |pan (x:aH)
 |rcv
 |call (m:CM) (f:Nat) (args:List aH)
 |callb (b:Nat) (f:Nat) (args:List aH)
 |callv (m:CM) (x:aH) (args:List aH)
 |inv (cm:CM) (m:Nat) (x:aH) (args:List aH)
 |bad
structure aA where
 dst:Option Nat
 op:bT
 guard:Option (Nat×Bool)
inductive aS where
 |skip
 |ret
 |exit (n:Nat)
 |region (ops:List aA)
 |seq (a b:aS)
 |cond (c:aH) (t e:aS)
 |block (n:Nat) (b:aS)
 |loop (b:aS)
 |clr (l:List (Nat×Nat)) (b:aS)
 |rng (pre:List aA) (x:aH) (en:Nat) (post:List aA) (l:List (Nat×Nat)) (b:aS)
 |scope (b:aS)
 |bad
inductive mu where
 |tmp (t:Nat)
 |cell (t:Nat) (ag:Bool) (n:Nat)
structure aX where
 params:Nat
 results:List mu
 body:aS
 raw:Bool
structure gR where
 params:Nat
 results:List mu
 pre:List aS
 clo:aA
 t:Nat
 rest:aS
 raw:Bool
 rcl:Option (Nat×aX):=none
inductive tA where
 |code (f:aX)
 |codeD (f:gR)
 |indexByte
 |ext (e:List PV→Option PV)
 |exs (e:List PV→St→Option (PV×St))
structure aV where
 fn:Nat→Option tA
 meth:Nat→Nat→Option Nat
abbrev Fr:=Nat→PV
def Fr.bot:Fr:=fun _=>.und
def upd(fr:Fr)(d:Nat)(v:PV):Fr:=fun t=>cond (t==d) v (fr t)
def df(fr:Fr)(d:Nat)(v:PV)(t:Nat):upd fr d v t=if t=d then v else fr t:=by
 unfold upd;by_cases h:t=d
 ·subst h;simp
 ·have:(t==d)=false:=by simpa using h
  rw[this,if_neg h];rfl
def ig(lo hi t:Nat):Bool:=(lo-t==0)&&(t+1-hi==0)
def ft(lo hi:Nat)(fr:Fr):Fr:=fun t=>cond (ig lo hi t) .und (fr t)
def clrs:List (Nat×Nat)→Fr→Fr
 | [],fr=>fr
 |(a,b)::l,fr=>clrs l (ft a b fr)
def aP(fr:Fr)(d:Option Nat)(v:PV):Fr:=match d with|some d=>upd fr d v|none=>fr
def ev(fr:Fr):aH→PV
 |.tmp t=>fr t
 |.cst v=>v
def bp(fr:Fr):Option aH→Option PV
 |none=>none
 |some x=>some (ev fr x)
def gX(op:BinOp)(k:IntKind)(a b:Int):Option PV:=
 match op with
 |.add=>some (.int k (k.wrap (a+b)))
 |.sub=>some (.int k (k.wrap (a-b)))
 |.mul=>some (.int k (k.wrap (a*b)))
 |.quo=>if b=0 then none else some (.int k (k.wrap (a.tdiv b)))
 |.rem=>if b=0 then none else some (.int k (a.tmod b))
 |.and=>some (.int k (k.wrap (BitVec.ofInt k.bits a &&& BitVec.ofInt k.bits b).toNat))
 |.or=>some (.int k (k.wrap (BitVec.ofInt k.bits a ||| BitVec.ofInt k.bits b).toNat))
 |.xor=>some (.int k (k.wrap (BitVec.ofInt k.bits a ^^^ BitVec.ofInt k.bits b).toNat))
 |.andNot=>some (.int k (k.wrap (BitVec.ofInt k.bits a &&& ~~~BitVec.ofInt k.bits b).toNat))
 |.eql=>some (.bool (a==b))
 |.neq=>some (.bool (a != b))
 |.lss=>some (.bool (a<b))
 |.leq=>some (.bool (a≤b))
 |.gtr=>some (.bool (a>b))
 |.geq=>some (.bool (a≥b))
 |_=>none
def ld(op:BinOp)(k:IntKind)(a b:Int):Option PV:=
 if b<0 then none else
 match op with
 |.shl=>some (.int k (k.wrap (a*2^(min b.toNat k.bits))))
 |.shr=>some (.int k (a.fdiv (2^(min b.toNat k.bits))))
 |_=>none
def RA(op:BinOp)(a b:List UInt8):Option PV:=
 match op with
 |.add=>if a.length+b.length≤9223372036854775807 then some (.str (a++b))else none
 |.eql=>some (.bool (a==b))
 |.neq=>some (.bool !(a==b))
 |.lss=>some (.bool (Op.bytesLess a b))
 |.leq=>some (.bool (Op.bytesLess a b||a==b))
 |.gtr=>some (.bool !(Op.bytesLess a b||a==b))
 |.geq=>some (.bool !(Op.bytesLess a b))
 |_=>none
def ef:BinOp→Bool
 |.shl|.shr=>true
 |_=>false
def arith(op:BinOp):PV→PV→Option PV
 |.int k a,.int l b=>if ef op then ld op k a b else if k=l then gX op k a b else none
 |.str a,.str b=>RA op a b
 |_,_=>none
def fu(neg:Bool)(b:Bool):PV:=.bool (if neg then !b else b)
def isNil:NK→PV→Option Bool
 |.p,.nilp|.s,.nils|.i,.nili|.f,.nilf|.m,.nilm=>some true
 |.p,.ptr ..|.p,.ref _|.s,.sl ..|.s,.osl ..|.s,.emp|.i,.iface ..|.f,.fn ..|.f,.bfn ..|.m,.map _=>some false
 |_,_=>none
def eJ(isb:Bool):List PV→List PV→Option Bool
 | [],[]=>some true
 |.bool a::l,.bool b::m=>if isb then(match eJ isb l m with|some r=>some (a==b&&r)|none=>none)else none
 |.int k a::l,.int j b::m=>if !isb&&k=j then(match eJ isb l m with|some r=>some (a==b&&r)|none=>none)else none
 |_,_=>none
def unOp:UnOp→PV→Option PV
 |.not,.bool b=>some (.bool !b)
 |.neg,.int k n=>some (.int k (k.wrap (0-n)))
 |.xor,.int k n=>some (.int k (k.wrap (BitVec.ofInt k.bits (if k.signed then -1 else k.max) ^^^ BitVec.ofInt k.bits n).toNat))
 |_,_=>none
def kG:List PV→Option (List UInt8)
 | []=>some []
 |.int .u8 n::l=>match kG l with|some r=>some (UInt8.ofNat n.toNat::r)|none=>none
 |_=>none
def aI(s:List UInt8):List PV:=s.map fun b=>.int .u8 b.toNat
def bG(ag:Bool)(n:Nat)(cs:List PV):Option PV:=
 if n≤cs.length then(if ag then some (.agg (cs.take n))else match cs with|c::_=>if n=1 then some c else none | []=>none)else none
def ak(cs:List PV)(off:Nat)(vs:List PV):List PV:=cs.take off++vs++cs.drop (off+vs.length)
def dx(fr:Fr):List (Nat×Nat×aH)→List PV→Option (List PV)
 | [],cs=>some cs
 |(off,n,x)::rest,cs=>
  let v:=(ev fr x).cells
  if v.length=n∧off+n≤cs.length∧v.all PV.one then dx fr rest (ak cs off v)else none
def fF(y:Nat):PV→Option Nat
 |.int _ i=>if 0≤i∧i≤y then some i.toNat else none
 |_=>none
def gr(len cap:Nat):Option PV→Option Nat
 |some v=>fF cap v
 |none=>some len
def kH(h:Nat):Option PV→Option Nat
 |some v=>fF h v
 |none=>some 0
def dE(len cap:Nat)(lo hi:Option PV):Option (Nat×Nat):=
 match gr len cap hi with
 |none=>none
 |some h=>match kH h lo with
  |none=>none
  |some l=>if l≤h then some (l,h)else none
def mw:bT→Bool
 |.load _ _ mix _=>mix
 |.store ..|.stb ..|.box ..|.alloc ..|.bsl ..|.app ..|.toBytes ..|.mks ..|.call ..|.callv ..|.inv ..|.loadb ..|.callb ..|.mkm|.mlk ..|.mset ..|.mdel ..|.mlen _|.slc3 ..|.gapp ..|.toStrO _|.emp0|.gclr ..|.plk ..|.pset ..|.mko ..|.nst ..|.msb ..|.men ..|.est ..|.wc ..|.pan _|.rcv|.bad=>false
 |_=>true
def jd:bT→Bool
 |.box ro _|.alloc ro _|.bsl ro _ _ _|.toBytes ro _=>ro
 |.call m _ _|.callv m _ _|.inv m _ _ _=>m==.pur
 |.emp0=>true
 |op=>mw op
def aR(fr:Fr):bT→Option PV
 |.mov x=>some (ev fr x)
 |.pick c a b=>match ev fr c with|.bool true=>some (ev fr a)|.bool false=>some (ev fr b)|_=>none
 |.nilck x=>match ev fr x with
  |.ptr i o=>some (.ptr i o)
  |.ref cs=>some (.ref cs)
  |.iface t v=>some (.iface t v)
  |.fn f cs=>some (.fn f cs)
  |.bfn f cs=>some (.bfn f cs)
  |_=>none
 |.arith op x y=>arith op (ev fr x) (ev fr y)
 |.eqb neg x y=>match ev fr x,ev fr y with|.bool a,.bool b=>some (fu neg (a==b))|_,_=>none
 |.eqn neg k x=>match isNil k (ev fr x)with|some b=>some (fu neg b)|none=>none
 |.eqa neg isb n x y=>match ev fr x,ev fr y with
  |.agg a,.agg b=>if a.length=n∧b.length=n then(match eJ isb a b with|some r=>some (fu neg r)|none=>none)else none
  |_,_=>none
 |.eqs neg n x y=>match ev fr x,ev fr y with
  |.agg a,.agg b=>if a.length=n∧b.length=n then(match eJ false a b with|some r=>some (fu neg r)|none=>none)else none
  |_,_=>none
 |.un op x=>unOp op (ev fr x)
 |.toInt k x=>match ev fr x with|.int _ n=>some (.int k (k.wrap n))|_=>none
 |.strId x=>match ev fr x with|.str s=>some (.str s)|_=>none
 |.toStr x=>match ev fr x with
  |.nils=>some (.str [])
  |.emp=>some (.str [])
  |.sl _ es _=>match kG es with|some s=>some (.str s)|none=>none
  |_=>none
 |.field ag off n x=>match ev fr x with|.agg cs=>bG ag n (cs.drop off)|_=>none
 |.build z parts=>match dx fr parts z with|some cs=>some (.agg cs)|none=>none
 |.mkif t x=>some (.iface t (ev fr x))
 |.mkfn f caps=>some (.fn f (caps.map (ev fr)))
 |.mkbfn f first=>some (.bfn f (first.map (ev fr)))
 |.extract i x=>match ev fr x with|.tup vs=>vs[i]?|_=>none
 |.assert t ok z x=>match ev fr x with
  |.nili=>if ok then some (.tup [z,.bool false])else none
  |.iface u v=>if u=t then some (if ok then .tup [v,.bool true]else v)else(if ok then some (.tup [z,.bool false])else none)
  |_=>none
 |.asrI l x=>match ev fr x with
  |.iface u v=>if l.contains u then some (.tup [.iface u v,.bool true])else none
  |_=>none
 |.idxs x i=>match ev fr x,ev fr i with
  |.str s,.int _ j=>if 0≤j then(match s[j.toNat]? with|some b=>some (.int .u8 b.toNat)|none=>none)else none
  |_,_=>none
 |.idxa len n ag x i=>match ev fr x,ev fr i with
  |.agg cs,.int _ j=>if 0≤j∧j<len then bG ag n (cs.drop (j.toNat*n))else none
  |_,_=>none
 |.slcs lo hi x=>match ev fr x with
  |.str s=>match dE s.length s.length (bp fr lo) (bp fr hi)with
   |some (l,h)=>some (.str ((s.take h).drop l))
   |none=>none
  |_=>none
 |.slc sz lo hi x=>match ev fr x with
  |.nils=>match dE 0 0 (bp fr lo) (bp fr hi)with|some _=>some .nils|none=>none
  |.sl tip es sp=>if !jF sz (es++sp)then none else match dE es.length (es.length+sp.length) (bp fr lo) (bp fr hi)with
   |some (l,h)=>some (.sl (if h=es.length then tip else none) (((es++sp).take h).drop l) ((es++sp).drop h))
   |none=>none
  |.osl id off len sz'=>if sz'=sz∧0<sz then(match dE len len (bp fr lo) (bp fr hi)with
   |some (l,h)=>if l=0∨l<h then some (.osl id (off+l*sz) (h-l) sz)else none
   |none=>none)else none
  |.emp=>match dE 0 0 (bp fr lo) (bp fr hi)with|some _=>some .emp|none=>none
  |_=>none
 |.emp3 x=>match ev fr x with
  |.nils=>some .nils
  |.sl ..=>some .emp
  |.osl ..=>some .emp
  |.emp=>some .emp
  |_=>none
 |.slca len sz lo hi x=>match ev fr x with
  |.ptr id off=>match dE len len (bp fr lo) (bp fr hi)with
   |some (l,h)=>if l<h then some (.osl id (off+l*sz) (h-l) 0)else none
   |none=>none
  |.ref cs=>if sz=1∧cs.length=len∧cs.all PV.one=true then(match dE len len (bp fr lo) (bp fr hi)with
   |some (l,h)=>if l<h then some (.sl none ((cs.take h).drop l) (cs.drop h))else none
   |none=>none)else none
  |_=>none
 |.faddr off x=>match ev fr x with
  |.ptr id o=>some (.ptr id (o+off))
  |.ref cs=>if off≤cs.length then some (.ref (cs.drop off))else none
  |_=>none
 |.iaddr sz x i=>match ev fr x,ev fr i with
  |.sl _ es _,.int _ j=>if 0≤j then(match es[j.toNat]? with|some e=>if e.cells.length=sz then some (.ref e.cells)else none|none=>none)else none
  |.osl id off n _,.int _ j=>if 0≤j∧j<n then some (.ptr id (off+j.toNat*sz))else none
  |_,_=>none
 |.iaddra len sz x i=>match ev fr x,ev fr i with
  |.ptr id off,.int _ j=>if 0≤j∧j<len then some (.ptr id (off+j.toNat*sz))else none
  |.ref cs,.int _ j=>if 0≤j∧j<len∧j.toNat*sz≤cs.length then some (.ref (cs.drop (j.toNat*sz)))else none
  |_,_=>none
 |.len true x=>match ev fr x with
  |.str s=>some (.int .i64 s.length)
  |_=>none
 |.len false x=>match ev fr x with
  |.nils=>some (.int .i64 0)
  |.sl _ es _=>some (.int .i64 es.length)
  |.osl _ _ n _=>some (.int .i64 n)
  |.emp=>some (.int .i64 0)
  |_=>none
 |.mnmx mx x y=>match ev fr x,ev fr y with
  |.int k a,.int l b=>if k=l then some (.int k (if mx then(if b>a then b else a)else(if b<a then b else a)))else none
  |_,_=>none
 |.load ag n true x=>match ev fr x with|.ref cs=>bG ag n cs|_=>none
 |_=>none
def bt (S:St) (cs:List PV):PV×St:=(.ptr S.objs.length 0,{S with objs:=S.objs++[cs]})
def dy (S:St) (sz:Nat) (es:List PV):PV×St:=(.sl (some (S.tips.length,es.length)) es [],{S with tips:=S.tips++[(es.length,sz)]})
def dU(fr:Fr)(sz:Nat):List (Nat×aH)→List PV→Option (List PV)
 | [],es=>some es
 |(i,x)::rest,es=>
  let v:=ev fr x
  if v.cells.length=sz∧v.cells.all PV.one∧i<es.length then dU fr sz rest (es.set i v)else none
def lg(sz:Nat):PV→Option (List PV)
 |.nils=>some []
 |.str s=>if sz=1 then some (aI s)else none
 |.sl _ es _=>if jF sz es then some es else none
 |.emp=>some []
 |_=>none
def tB(sz:Nat)(cs:List PV):PV:=match cs with | [c]=>if sz=1 then c else .agg [c]|cs=>.agg cs
def db(sz:Nat):Nat→List PV→List PV
 |0,_=>[]
 |n+1,cs=>tB sz (cs.take sz)::db sz n (cs.drop sz)
def eg(S:St)(sz:Nat):PV→Option (List PV)
 |.osl id off len sz'=>match S.objs[id]? with
  |some cs=>if sz'=sz∧0<sz∧off+len*sz≤cs.length∧((cs.drop off).take (len*sz)).all PV.one=true then some (db sz len (cs.drop off))else none
  |none=>none
 |v=>lg sz v
def eh(sz bytes:Nat)(S:St)(s:PV)(new:List PV):Option (PV×St):=
 match s with
 |.nils=>if new.isEmpty then some (.nils,S)else if new.length*bytes≤140737488355328 then some (dy S sz new)else none
 |.sl tip es sp=>
  if new.isEmpty then some (.sl tip es sp,S)else
  match tip,sp with
  |some (id,e),[]=>
   if S.tips[id]?=some (e,sz)∧(es.length+new.length)*bytes≤140737488355328 then
    some (.sl (some (id,e+new.length)) (es++new) [],{S with tips:=S.tips.set id (e+new.length,sz)})
   else none
  |_,_=>none
 |.emp=>if new.isEmpty then some (.emp,S)else if new.length*bytes≤140737488355328 then some (dy S sz new)else none
 |_=>none
def kx (S:St) (sz:Nat) (new:List PV):PV×St:=(.osl S.objs.length 0 new.length sz,{S with objs:=S.objs++[new.flatMap PV.cells]})
def gt(sz bytes:Nat)(S:St)(s:PV)(new:List PV):Option (PV×St):=
 if new.isEmpty then(match s with|.nils=>some (.nils,S)|.emp=>some (.emp,S)|.osl id off len sz'=>if sz'=sz then some (.osl id off len sz',S)else none|_=>none)else
 match s with
 |.nils=>if new.length*bytes≤140737488355328 then some (kx S sz new)else none
 |.emp=>if new.length*bytes≤140737488355328 then some (kx S sz new)else none
 |.osl id off len sz'=>(match S.objs[id]? with
  |some cs=>if sz'=sz∧off=0∧0<cs.length∧len*sz≤cs.length∧(cs.take (len*sz)).all PV.one=true∧(len+new.length)*bytes≤140737488355328 then
    some (.osl S.objs.length 0 (len+new.length) sz,{S with objs:=S.objs.set id []++[cs.take (len*sz)++new.flatMap PV.cells]})else none
  |none=>none)
 |_=>none
abbrev ac:=Nat→List PV→St→Option (PV×St)
def oS(keep:Bool)(S:St):Option (PV×St)→Option (PV×St)
 |none=>none
 |some (v,S')=>if keep then(if PV.beqLL (S'.objs.take S.objs.length) S.objs then some (v,S')else none)else some (v,S')
def cS:St:=⟨[],[]⟩
def wE:Option (PV×St)→Option PV
 |some (r,_)=>if r.free then some r.frz else none
 |none=>none
def jG(call:ac)(f:Nat)(args:List PV):Option PV:=
 if PV.freeL args then wE (call f (PV.frzL args) cS)else none
def dF(S:St):Option PV→Option (PV×St)
 |some v=>some (v,S)
 |none=>none
def cc(f:PV→Option PV):List PV→Option (List PV)
 | []=>some []
 |a::l=>match f a with
  |some b=>(match cc f l with|some m=>some (b::m)|none=>none)
  |none=>none
def ai(objs:List (List PV))(n0:Nat):Nat→PV→Option PV
 |0,_=>none
 |k+1,v=>if v.free then some v else
  match v with
  |.ptr id off=>if n0≤id then(match objs[id]? with
    |some cs=>if off≤cs.length then(match cc (ai objs n0 k) (cs.drop off)with|some ds=>some (.ref ds)|none=>none)else none
    |none=>none)else none
  |.ref cs=>match cc (ai objs n0 k) cs with|some ds=>some (.ref ds)|none=>none
  |.iface t u=>match ai objs n0 k u with|some x=>some (.iface t x)|none=>none
  |.agg cs=>match cc (ai objs n0 k) cs with|some ds=>some (.agg ds)|none=>none
  |.tup cs=>match cc (ai objs n0 k) cs with|some ds=>some (.tup ds)|none=>none
  |.fn f cs=>match cc (ai objs n0 k) cs with|some ds=>some (.fn f ds)|none=>none
  |.sl tip es sp=>match cc (ai objs n0 k) es,cc (ai objs n0 k) sp with|some a,some b=>some (.sl tip a b)|_,_=>none
  |.osl id off len sz=>if n0≤id∧0<sz then(match objs[id]? with
    |some cs=>if off+len*sz≤cs.length∧((cs.drop off).take (len*sz)).all PV.one=true then(match cc (ai objs n0 k) ((cs.drop off).take (len*sz))with|some ds=>some (.sl none (db sz len ds) [])|none=>none)else none
    |none=>none)else none
  |.emp=>some (.sl none [] [])
  |_=>none
def eU:Nat:=40
def my(call:ac)(f:Nat)(args:List PV)(S:St):Option PV:=
 match cc (ai S.objs 0 eU) args with
 |some as=>(match call f (PV.frzL as) cS with
  |some (r,_)=>if r.scal then some r else none
  |none=>none)
 |none=>none
def dP(call:ac)(m:CM)(f:Nat)(args:List PV)(S:St):Option (PV×St):=
 match m with
 |.std=>call f args S
 |.keep=>oS true S (call f args S)
 |.pur=>dF S (jG call f args)
 |.snap=>dF S (my call f args S)
def mz:PV→PV→Option Bool
 |.str a,.str b=>some (a==b)
 |.int k a,.int l b=>if k=l then some (a==b)else none
 |_,_=>none
def kI(k:PV):List PV→Option (Option PV)
 | []=>some none
 | [_]=>some none
 |q::v::r=>match mz k q with
  |some true=>some (some v)
  |some false=>kI k r
  |none=>none
def iQ(k v:PV):List PV→Option (List PV)
 | []=>some [k,v]
 | [_]=>none
 |q::u::r=>match mz k q with
  |some true=>if r.length%2=0 then some (k::v::r)else none
  |some false=>(match iQ k v r with|some s=>some (q::u::s)|none=>none)
  |none=>none
def ky(k:PV):List PV→Option (List PV)
 | []=>some []
 | [_]=>none
 |q::u::r=>match mz k q with
  |some true=>if r.length%2=0 then some r else none
  |some false=>(match ky k r with|some s=>some (q::u::s)|none=>none)
  |none=>none
def wF:PV→Bool
 |.str _|.int ..|.ptr ..|.agg [.str _,.str _]=>true
 |_=>false
def fY:Bool→PV→Bool
 |true,.str _=>true
 |false,.int ..=>true
 |_,_=>false
def je(ok:Bool)(z:PV):Option PV→PV
 |some v=>if ok then .tup [v,.bool true]else v
 |none=>if ok then .tup [z,.bool false]else z
def dL(ar:Bool)(S:St):PV→Bool
 |.ptr i _=>!ar&&(match S.objs[i]? with|some (_::_)=>true|_=>false)
 |.agg [.str _,.str _]=>ar
 |_=>false
def fP(ar:Bool)(S:St):List PV→Bool
 |k::_::r=>dL ar S k&&fP ar S r
 |_=>true
def dM(k:PV):List PV→Option PV
 |q::v::r=>if PV.beq q k then some v else dM k r
 |_=>none
def dg(k v:PV):List PV→List PV
 |q::u::r=>if PV.beq q k then k::v::r else q::u::dg k v r
 |_=>[k,v]
def wG(S:St)(sz:Nat)(lo:Option PV)(hi mx:PV):PV→Option (PV×St)
 |.nils=>(match fF 0 mx,fF 0 hi,kH 0 lo with|some _,some _,some _=>some (.nils,S)|_,_,_=>none)
 |.sl (some _) es sp=>if jF sz (es++sp)=true∧0<sz then(match fF (es.length+sp.length) mx with
   |some m=>(match fF m hi with
    |some h=>(match kH h lo with
     |some l=>if m=h then some (.sl (some (S.tips.length,h-l)) (((es++sp).take h).drop l) [],{S with tips:=S.tips++[(h-l,sz)]})else none
     |none=>none)
    |none=>none)
   |none=>none)else none
 |_=>none
def qH(fr:Fr)(l:List Nat)(id:Nat):Bool:=l.all fun t=>match fr t with|.ptr i _=>i != id|_=>false
def oT(id:Nat)(S:St):Option (PV×St)→Option (PV×St)
 |some (v,S')=>match S.objs[id]?,S'.objs[id]? with
  |some a,some b=>if PV.beqL a b then some (v,S')else none
  |_,_=>none
 |none=>none
def cY(fr:Fr)(ze:PV)(len:Nat)(parts:List (Nat×aH)):Option (List PV):=
 if 0<ze.cells.length∧ze.cells.all PV.one∧len*ze.cells.length≤16777216 then dU fr ze.cells.length parts (List.replicate len ze)else none
def aG(T:aV)(call:ac)(fr:Fr)(S:St):bT→Option (PV×St)
 |.load ag n false x=>match ev fr x with
  |.ref cs=>match bG ag n cs with|some v=>some (v,S)|none=>none
  |.ptr id off=>match S.objs[id]? with
   |some cs=>match bG ag n (cs.drop off)with|some v=>some (v,S)|none=>none
   |none=>none
  |_=>none
 |.loadb b ag n x=>match fr b,ev fr x with
  |.ptr i _,.ptr id off=>if i=id then(match S.objs[id]? with
   |some cs=>match bG ag n (cs.drop off)with|some v=>some (v,S)|none=>none
   |none=>none)else none
  |_,_=>none
 |.mkm=>some (.map S.objs.length,{S with objs:=S.objs++[[]]})
 |.mlk ks ok z x k=>if fY ks (ev fr k)then(match ev fr x with
  |.nilm=>some (je ok z none,S)
  |.map id=>(match S.objs[id]? with
   |some cs=>(match kI (ev fr k) cs with|some r=>some (je ok z r,S)|none=>none)
   |none=>none)
  |_=>none)else none
 |.mset ks x k v=>match ev fr x with
  |.map id=>(match S.objs[id]? with
   |some cs=>(match iQ (ev fr k) (ev fr v) cs with|some ds=>if fY ks (ev fr k)then some (.und,{S with objs:=S.objs.set id ds})else none|none=>none)
   |none=>none)
  |_=>none
 |.mdel ks x k=>match ev fr x with
  |.map id=>(match S.objs[id]? with
   |some cs=>(match ky (ev fr k) cs with|some ds=>if fY ks (ev fr k)then some (.tup [],{S with objs:=S.objs.set id ds})else none|none=>none)
   |none=>none)
  |_=>none
 |.plk ar ok z x k=>match ev fr x with
  |.map id=>(match S.objs[id]? with
   |some cs=>if dL ar S (ev fr k)=true∧fP ar S cs=true then some (je ok z (dM (ev fr k) cs),S)else none
   |none=>none)
  |_=>none
 |.pset ar x k v=>match ev fr x with
  |.map id=>(match S.objs[id]? with
   |some cs=>if dL ar S (ev fr k)=true∧fP ar S cs=true∧cs.length%2=0 then some (.und,{S with objs:=S.objs.set id (dg (ev fr k) (ev fr v) cs)})else none
   |none=>none)
  |_=>none
 |.mko sz bytes z c=>match ev fr c with
  |.int .i64 n=>if 1≤n∧n*bytes≤140737488355328∧0<sz∧0<bytes∧z.length=sz∧z.all PV.one then some (.osl S.objs.length 0 0 sz,{S with objs:=S.objs++[z]})else none
  |_=>none
 |.nst n x=>if(ev fr x).cells.length=n∧(ev fr x).cells.all PV.one then some (bt S (ev fr x).cells)else none
 |.msb l ks x k v=>match ev fr x with
  |.map id=>(match S.objs[id]? with
   |some cs=>(match iQ (ev fr k) (ev fr v) cs with|some ds=>if qH fr l id=true∧fY ks (ev fr k)=true then some (.und,{S with objs:=S.objs.set id ds})else none|none=>none)
   |none=>none)
  |_=>none
 |.men z x k=>match ev fr x with
  |.map id=>(match S.objs[id]? with
   |some cs=>if dL true S (ev fr k)=true∧fP true S cs=true∧cs.length%2=0 then
     some (.tup [(dM (ev fr k) cs).getD z,.und],{S with objs:=S.objs.set id (dg (ev fr k) ((dM (ev fr k) cs).getD z) cs++[.und])})else none
   |none=>none)
  |_=>none
 |.est x k v=>match ev fr x with
  |.map id=>(match S.objs[id]? with
   |some cs=>if dL true S (ev fr k)=true∧fP true S cs.dropLast=true∧cs.length%2=1 then
     some (.und,{S with objs:=S.objs.set id (dg (ev fr k) (ev fr v) cs.dropLast)})else none
   |none=>none)
  |_=>none
 |.mlen x=>match ev fr x with
  |.nilm=>some (.int .i64 0,S)
  |.map id=>(match S.objs[id]? with|some cs=>some (.int .i64 ((cs.length/2:Nat):Int),S)|none=>none)
  |_=>none
 |.slc3 sz lo hi mx x=>wG S sz (bp fr lo) (ev fr hi) (ev fr mx) (ev fr x)
 |.callb b f args=>match fr b with
  |.ptr i _=>oT i S (call f (args.map (ev fr)) S)
  |_=>none
 |.store n a v=>match ev fr a with
  |.ptr id off=>match S.objs[id]? with
   |some cs=>
    let vs:=(ev fr v).cells
    if vs.length=n∧off+n≤cs.length∧vs.all PV.one then some (.und,{S with objs:=S.objs.set id (ak cs off vs)})else none
   |none=>none
  |_=>none
 |.stb l n a v=>match ev fr a with
  |.ptr id off=>match S.objs[id]? with
   |some cs=>
    let vs:=(ev fr v).cells
    if qH fr l id=true∧vs.length=n∧off+n≤cs.length∧vs.all PV.one then some (.und,{S with objs:=S.objs.set id (ak cs off vs)})else none
   |none=>none
  |_=>none
 |.box ro x=>if(ev fr x).cells.all PV.one then some (if ro then(.ref (ev fr x).cells,S)else bt S (ev fr x).cells)else none
 |.alloc ro z=>if z.all PV.one then some (if ro then(.ref z,S)else bt S z)else none
 |.bsl ro ze len parts=>match cY fr ze len parts with
  |some es=>some (if ro then(.sl none es [],S)else dy S ze.cells.length es)
  |none=>none
 |.app sz bytes s x=>match eg S sz (ev fr x)with
  |some new=>if 0<sz then eh sz bytes S (ev fr s) new else none
  |none=>none
 |.gapp sz bytes s x=>match eg S sz (ev fr x)with
  |some new=>if 0<sz then gt sz bytes S (ev fr s) new else none
  |none=>none
 |.toStrO x=>match ev fr x with
  |.osl id off len sz=>(match S.objs[id]? with
   |some cs=>if sz=1∧off+len≤cs.length then(match kG ((cs.drop off).take len)with|some s=>some (.str s,S)|none=>none)else none
   |none=>none)
  |.nils=>some (.str [],S)
  |.emp=>some (.str [],S)
  |.sl _ es _=>(match kG es with|some s=>some (.str s,S)|none=>none)
  |_=>none
 |.emp0=>some (.emp,S)
 |.gclr sz z x=>match ev fr x with
  |.osl id off len sz'=>(match S.objs[id]? with
   |some cs=>if sz'=sz∧0<sz∧z.length=sz∧z.all PV.one∧off+len*sz≤cs.length then some (.tup [],{S with objs:=S.objs.set id (ak cs off (List.replicate len z).flatten)})else none
   |none=>none)
  |_=>none
 |.toBytes ro x=>match ev fr x with|.str s=>some (if ro then(.sl none (aI s) [],S)else dy S 1 (aI s))|_=>none
 |.mks sz bytes c=>match ev fr c with
  |.int .i64 n=>if 0≤n∧n*bytes≤140737488355328∧0<sz∧0<bytes then some (dy S sz [])else none
  |_=>none
 |.call m f args=>dP call m f (args.map (ev fr)) S
 |.callv m x args=>match ev fr x with
  |.fn f caps=>dP call m f (args.map (ev fr)++caps) S
  |.bfn f first=>dP call m f (first++args.map (ev fr)) S
  |_=>none
 |.inv cm m x args=>match ev fr x with
  |.iface t v=>match T.meth t m with
   |some f=>dP call cm f (v::args.map (ev fr)) S
   |none=>none
  |_=>none
 |.wc ..=>none
 |.pan _=>none
 |.rcv=>none
 |.bad=>none
 |o=>dF S (aR fr o)
def bu(fr:Fr):Option (Nat×Bool)→Option Bool
 |none=>some true
 |some (t,b)=>match fr t with
  |.bool c=>some (c==b)
  |.tup []=>some false
  |_=>none
def ae(T:aV)(call:ac):List aA→Fr→St→Option (Fr×St)
 | [],fr,S=>some (fr,S)
 |o::rest,fr,S=>
  match bu fr o.guard with
  |none=>none
  |some false=>ae T call rest (aP fr o.dst (.tup [])) S
  |some true=>match aG T call fr S o.op with
   |some (v,S')=>ae T call rest (aP fr o.dst v) S'
   |none=>none
inductive Ex where
 |norm
 |exit (n:Nat)
 |ret
def jH(iter:PV→PV→Fr→St→Option (Fr×St)):List (PV×PV)→Fr→St→Option (Fr×St)
 | [],fr,S=>some (fr,S)
 |(k,v)::r,fr,S=>match iter k v fr S with
  |some (fr',S')=>jH iter r fr' S'
  |none=>none
def jf:List PV→List (PV×PV)
 |k::v::r=>(k,v)::jf r
 |_=>[]
open Classical in
noncomputable def tC (iter:PV→PV→Fr→St→Option (Fr×St))(l:List (PV×PV))(fr:Fr)(S:St):Option (Fr×St):=
 match jH iter l fr S with
 |some r=>if l.length≤1 then some r else if ∀p:List (PV×PV),p.Perm l→jH iter p fr S=some r then some r else none
 |none=>none
def lj(T:aV)(call:ac)(run:Fr→St→Option (Ex×Fr×St))(id:Nat)(cs:List PV)(en:Nat)(post:List aA)(l:List (Nat×Nat))(k v:PV)(fr:Fr)(S:St):Option (Fr×St):=
 match ae T call post (aP fr (some en) (.tup [k,v])) S with
 |some (fr2,S2)=>(match run fr2 S2 with
  |some (.norm,fr3,S3)=>(match S3.objs[id]? with
   |some ds=>if PV.beqL ds cs then some (clrs l fr3,S3)else none
   |none=>none)
  |_=>none)
 |none=>none
noncomputable def jg (T:aV)(call:ac)(run:Fr→St→Option (Ex×Fr×St))(x:aH)(en:Nat)(post:List aA)(l:List (Nat×Nat))(fr:Fr)(S:St):Option (Fr×St):=
 match ev fr x with
 |.map id=>(match S.objs[id]? with
  |some cs=>tC (lj T call run id cs en post l) (jf cs) (clrs l fr) S
  |none=>none)
 |_=>none
noncomputable def aY (T:aV)(call:ac):Nat→aS→Fr→St→Option (Ex×Fr×St)
 |0,_,_,_=>none
 |_+1,.skip,fr,S=>some (.norm,fr,S)
 |_+1,.ret,fr,S=>some (.ret,fr,S)
 |_+1,.exit n,fr,S=>some (.exit n,fr,S)
 |_+1,.region ops,fr,S=>match ae T call ops fr S with|some (fr',S')=>some (.norm,fr',S')|none=>none
 |k+1,.seq a b,fr,S=>match aY T call k a fr S with
  |some (.norm,fr',S')=>aY T call k b fr' S'
  |r=>r
 |k+1,.cond c t e,fr,S=>match ev fr c with
  |.bool true=>aY T call k t fr S
  |.bool false=>aY T call k e fr S
  |_=>none
 |k+1,.block n b,fr,S=>match aY T call k b fr S with
  |some (.exit m,fr',S')=>if m=n then some (.norm,fr',S')else some (.exit m,fr',S')
  |r=>r
 |k+1,.loop b,fr,S=>match aY T call k b fr S with
  |some (.norm,fr',S')=>aY T call k (.loop b) fr' S'
  |r=>r
 |k+1,.scope b,fr,S=>aY T call k b fr S
 |k+1,.clr l b,fr,S=>match aY T call k b fr S with
  |some (.norm,fr',S')=>some (.norm,clrs l fr',S')
  |r=>r
 |k+1,.rng pre x en post l b,fr,S=>match ae T call pre fr S with
  |some (fr1,S1)=>(match jg T call (fun fr S=>aY T call k b fr S) x en post l fr1 S1 with
   |some (fr',S')=>some (.norm,fr',S')
   |none=>none)
  |none=>none
 |_+1,.bad,_,_=>none
def bk(args:List PV):Fr:=fun t=>(args[t]?).getD .und
def gu(fr:Fr)(S:St):mu→Option PV
 |.tmp t=>some (fr t)
 |.cell t ag n=>match fr t with
  |.ref cs=>bG ag n cs
  |.ptr id off=>match S.objs[id]? with
   |some cs=>bG ag n (cs.drop off)
   |none=>none
  |_=>none
def cF(fr:Fr)(S:St):List mu→Option (List PV)
 | []=>some []
 |r::l=>match gu fr S r,cF fr S l with
  |some v,some vs=>some (v::vs)
  |_,_=>none
def bb:List PV→PV
 | [v]=>v
 |vs=>.tup vs
def nA:List (List PV)→Bool
 | []=>true
 |a::l=>PV.freeL a&&nA l
def aW(raw:Bool)(S0 S1:St)(r:PV):PV×St:=
 if raw then(r,S1)else
 match ai S1.objs S0.objs.length eU r with
 |none=>(r,S1)
 |some r'=>
  if PV.beqLL (S1.objs.take S0.objs.length) S0.objs then(r'.frz,⟨S0.objs,S1.tips.take S0.tips.length⟩)
  else if nA (S1.objs.take S0.objs.length)then(r',⟨S1.objs.take S0.objs.length,S1.tips⟩)
  else(r,S1)
def RB:List PV→Option PV
 | [.str s,.int .u8 c]=>some (.int .i64 (match(List.range s.length).find? (fun i=>(s.getD i 0)==UInt8.ofNat c.toNat)with|some i=>(i:Int)|none=>-1))
 |_=>none
def CC(sep:List UInt8):List (List UInt8)→List UInt8
 | []=>[]
 | [x]=>x
 |x::y::r=>x++sep++CC sep (y::r)
def RC:List PV→Option (List (List UInt8))
 | []=>some []
 |.str s::l=>match RC l with|some r=>some (s::r)|none=>none
 |_=>none
def aLm:List PV→Option PV
 | [.nils,.str _]=>some (.str [])
 | [.sl _ es _,.str sep]=>match RC es with
  |some xs=>if xs.length≤140737488355328∧(CC sep xs).length≤140737488355328 then some (.str (CC sep xs))else none
  |none=>none
 |_=>none
def RD:Option tA→Bool
 |some (.code _)=>true
 |_=>false
noncomputable def kz (T:aV)(call:ac)(k:Nat):List aS→Fr→St→Option (Fr×St)
 | [],fr,S=>some (fr,S)
 |p::ps,fr,S=>match aY T call k p fr S with
  |some (.norm,fr1,S1)=>kz T call k ps fr1 S1
  |_=>none
noncomputable def tD (call:ac)(cf:Nat)(caps:List PV)(fr:Fr)(S:St):Option (Fr×St):=
 match call cf caps S with
 |some (_,S')=>some (fr,S')
 |none=>none
noncomputable def nB (T:aV)(call:ac)(k:Nat)(c:aX)(caps:List PV)(fr:Fr)(S:St):Option (Fr×St):=
 if caps.length=c.params then
  match aY T call k c.body (bk caps) S with
  |some (.norm,fr',S')=>(match cF fr' S' c.results with|some vs=>some (fr,(aW c.raw S S' (bb vs)).2)|none=>none)
  |some (.ret,fr',S')=>(match cF fr' S' c.results with|some vs=>some (fr,(aW c.raw S S' (bb vs)).2)|none=>none)
  |_=>none
 else none
noncomputable def lA (T:aV)(call:ac)(k:Nat)(f:gR)(cf:Nat)(caps:List PV)(fr:Fr)(S:St):Option (Fr×St):=
 match f.rcl with
 |none=>if RD (T.fn cf)then tD call cf caps fr S else none
 |some (cf',c)=>if cf=cf' then nB T call k c caps fr S else none
noncomputable def lB (T:aV)(call:ac)(k:Nat)(f:gR)(fr:Fr)(S:St):Option (Fr×St):=
 match kz T call k f.pre fr S with
 |none=>none
 |some (fr1,S1)=>match ae T call [f.clo] fr1 S1 with
  |none=>none
  |some (fr2,S2)=>match fr2 f.t with
   |.fn cf caps=>(match aY T call k f.rest fr2 S2 with
    |some (.norm,fr3,S3)=>lA T call k f cf caps fr3 S3
    |some (.ret,fr3,S3)=>lA T call k f cf caps fr3 S3
    |_=>none)
   |_=>none
noncomputable def bV (T:aV):Nat→ac
 |0,_,_,_=>none
 |k+1,g,args,S=>match T.fn g with
  |none=>none
  |some .indexByte=>match RB args with|some v=>some (v,S)|none=>none
  |some (.ext e)=>match e args with|some v=>some (v,S)|none=>none
  |some (.exs e)=>e args S
  |some (.codeD f)=>
   if args.length=f.params then
    match lB T (bV T k) k f (bk args) S with
    |some (fr,S')=>(match cF fr S' f.results with|some vs=>some (aW f.raw S S' (bb vs))|none=>none)
    |none=>none
   else none
  |some (.code f)=>
   if args.length=f.params then
    match aY T (bV T k) k f.body (bk args) S with
    |some (.norm,fr,S')=>(match cF fr S' f.results with|some vs=>some (aW f.raw S S' (bb vs))|none=>none)
    |some (.ret,fr,S')=>(match cF fr S' f.results with|some vs=>some (aW f.raw S S' (bb vs))|none=>none)
    |_=>none
   else none
end Ps
