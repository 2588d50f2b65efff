/- Defs. -/
import Init
import GoSem.Core.Code
import GoSem.Core.View
import GoSem.Op.String
set_option linter.defProp false
namespace Ps
def ZZ:=@Array.all_eq_true_iff_forall_mem
def Fs:=@Array.eq_empty_of_size_eq_zero
def hZ:=@Array.getD_eq_getD_getElem?
def jv:=@Array.getElem?_append_left
def Ft:=@Array.getElem?_append_right
def iA:=@Array.getElem?_eq_getElem
def eC:=@Array.getElem?_eq_some_iff
def Fu:=@Array.getElem?_extract
def Fv:=@Array.getElem?_map
def vp:=@Array.getElem?_modify
def Fw:=@Array.getElem?_range
def jV:=@Array.getElem?_setIfInBounds_ne
def qO:=@Array.getElem?_toList
def lC:=@Array.length_toList
def vq:=@Array.size_append
def Fx:=@Bool.and_assoc
def aV:=@Bool.and_eq_true
def Fy:=@Bool.and_false
def sZ:=@Bool.and_self
def jw:=@Bool.eq_false_iff
def Fz:=@Bool.eq_iff_iff
def qP:=@Bool.false_and
def cF:=@Bool.false_eq_true
def GA:=@Bool.false_or
def kV:=@Bool.not_eq_true'
def AR:=@Bool.not_false
def vt:=@Bool.not_true
def mD:=@Bool.or_eq_false_iff
def jW:=@Bool.or_eq_true
def vu:=@Bool.true_and
def AS:=@Int.eq_ofNat_of_zero_le
def AU:=@Int.fdiv_eq_ediv_of_nonneg
def AV:=@Int.le_refl
def vv:=@Int.tdiv_eq_ediv_of_nonneg
def oe:=@Int.tmod_eq_emod_of_nonneg
def vw:=@List.Perm.refl
def GB:=@List.Perm.swap
def AW:=@List.all_append
def mq:=@List.all_cons
def iv:=@List.append_assoc
def cI:=@List.append_nil
def kW:=@List.cons.injEq
def jx:=@List.cons_append
def Za:=@List.cons_lt_cons_iff
def GC:=@List.drop_append
def vy:=@List.drop_append_of_le_length
def Zb:=@List.drop_eq_getElem_cons
def sa:=@List.drop_of_length_le
def oh:=@List.drop_zero
def Zc:=@List.eq_nil_of_length_eq_zero
def Zd:=@List.eq_nil_or_concat
def sb:=@List.eq_of_mem_replicate
def mr:=@List.ext_getElem?
def AX:=@List.filter_append
def GD:=@List.filter_congr
def GE:=@List.filter_cons_of_neg
def Ze:=@List.filter_cons_of_pos
def GF:=@List.filter_eq_nil_iff
def qQ:=@List.filter_eq_self
def GG:=@List.filter_sublist
def fB:=@List.flatMap_cons
def vz:=@List.foldl_cons
def aq:=@List.forall_mem_cons
def mt:=@List.getD_eq_getElem?_getD
def AY:=@List.getElem?_append
def bP:=@List.getElem?_append_left
def gu:=@List.getElem?_append_right
def wB:=@List.getElem?_cons_zero
def iw:=@List.getElem?_drop
def cJ:=@List.getElem?_eq_getElem
def iJ:=@List.getElem?_eq_none
def aS:=@List.getElem?_eq_some_iff
def fX:=@List.getElem?_map
def qR:=@List.getElem?_modify
def iK:=@List.getElem?_of_mem
def GH:=@List.getElem?_set
def ak:=@List.getElem?_set_ne
def fY:=@List.getElem?_set_self
def dM:=@List.getElem?_take_of_lt
def wC:=@List.getElem?_zipIdx
def jy:=@List.getElem_mem
def GI:=@List.idxOf_lt_length_of_mem
def AZ:=@List.isEmpty_cons
def bV:=@List.length_cons
def kX:=@List.length_drop
def Zf:=@List.length_filter_le
def cT:=@List.length_nil
def Aa:=@List.length_replicate
def GJ:=@List.length_set
def ol:=@List.lt_irrefl
def GK:=@List.lt_trans
def eh:=@List.map_append
def om:=@List.map_congr_left
def dS:=@List.map_cons
def oo:=@List.map_map
def sc:=@List.map_nil
def sd:=@List.map_take
def dA:=@List.mem_append
def qS:=@List.mem_append_left
def cX:=@List.mem_cons
def wD:=@List.mem_cons_of_mem
def oq:=@List.mem_filter
def mE:=@List.mem_flatMap
def cD:=@List.mem_map
def Zg:=@List.mem_of_find?_eq_some
def dZ:=@List.mem_of_getElem?
def iZ:=@List.mem_of_mem_drop
def jz:=@List.mem_of_mem_take
def GL:=@List.mem_or_eq_of_mem_set
def Ab:=@List.mem_reverse
def se:=@List.mem_singleton
def eE:=@List.nil_append
def GM:=@List.nodup_cons
def Ac:=@List.nodup_range
def kY:=@List.not_mem_nil
def sg:=@List.pairwise_cons
def Zh:=@List.pairwise_iff_getElem
def sh:=@List.range'_succ
def wE:=@List.range_eq_range'
def mF:=@List.set_append_right
def Ad:=@List.set_set
def wF:=@List.size_toArray
def GN:=@List.sum_cons
def Ae:=@List.take_add
def sj:=@List.take_add_one
def Af:=@List.take_append
def sk:=@List.take_append_drop
def sm:=@List.take_append_of_le_length
def iy:=@List.take_length
def mu:=@List.take_of_length_le
def GO:=@List.take_take
def iL:=@Nat.add_assoc
def mG:=@Nat.add_comm
def dh:=@Nat.add_mul
def Zi:=@Nat.add_sub_cancel_left
def gB:=@Nat.add_zero
def wG:=@Nat.div_add_mod
def qT:=@Nat.div_lt_iff_lt_mul
def Ag:=@Nat.le_add_right
def mv:=@Nat.le_max_left
def mw:=@Nat.le_max_right
def Ah:=@Nat.le_of_eq
def aj:=@Nat.le_refl
def Ai:=@Nat.le_succ_of_le
def sn:=@Nat.lt_of_lt_of_le
def kA:=@Nat.lt_or_ge
def GP:=@Nat.min_eq_left
def sq:=@Nat.mod_eq_of_lt
def sr:=@Nat.mul_comm
def GQ:=@Nat.mul_eq_zero
def iz:=@Nat.mul_le_mul_right
def Aj:=@Nat.pow_le_pow_right
def GR:=@Nat.pow_succ
def dN:=@Nat.zero_add
def Zj:=@Option.bind_eq_some_iff
def Ak:=@Option.bind_some
def GS:=@Option.getD_some
def GT:=@Option.isNone_iff_eq_none
def my:=@Option.isSome_iff_exists
def lD:=@Option.map_some
def mH:=@Option.some.inj
def bU:=@Option.some.injEq
def dT:=@Prod.mk.injEq
end Ps
set_option linter.defProp false
namespace Ps
open Go
inductive PV where
 |und
 |int (k:IntKind) (n:Int)
 |bool (b:Bool)
 |str (s:List UInt8)
 |nilp
 |nils
 |nili
 |nilf
 |ptr (id off:Nat)
 |ref (cs:List PV)
 |sl (tip:Option (Nat×Nat)) (es sp:List PV)
 |osl (id off len sz:Nat)
 |emp
 |iface (t:Nat) (v:PV)
 |agg (cs:List PV)
 |tup (vs:List PV)
 |fn (f:Nat) (caps:List PV)
 |nilm
 |map (id:Nat)
 |bfn (f:Nat) (first:List PV)
 |hnd (b:Nat)
 deriving Inhabited
mutual
def PV.beq:PV→PV→Bool
 |.und,.und=>true
 |.int k n,.int l m=>k==l&&n==m
 |.bool a,.bool b=>a==b
 |.str s,.str t=>s==t
 |.nilp,.nilp=>true
 |.nils,.nils=>true
 |.nili,.nili=>true
 |.nilf,.nilf=>true
 |.ptr a b,.ptr c d=>a==c&&b==d
 |.ref a,.ref b=>PV.beqL a b
 |.sl t a b,.sl u c d=>t==u&&PV.beqL a c&&PV.beqL b d
 |.osl a b c s,.osl d e f t=>a==d&&b==e&&c==f&&s==t
 |.emp,.emp=>true
 |.iface t v,.iface u x=>t==u&&PV.beq v x
 |.agg a,.agg b=>PV.beqL a b
 |.tup a,.tup b=>PV.beqL a b
 |.fn f a,.fn g b=>f==g&&PV.beqL a b
 |.nilm,.nilm=>true
 |.hnd a,.hnd b=>a==b
 |.map a,.map b=>a==b
 |.bfn f a,.bfn g b=>f==g&&PV.beqL a b
 |_,_=>false
def PV.beqL:List PV→List PV→Bool
 | [],[]=>true
 |a::l,b::m=>PV.beq a b&&PV.beqL l m
 |_,_=>false
end
def PV.beqLL:List (List PV)→List (List PV)→Bool
 | [],[]=>true
 |a::l,b::m=>PV.beqL a b&&PV.beqLL l m
 |_,_=>false
mutual
def PV.free:PV→Bool
 |.ptr ..=>false
 |.osl ..=>false
 |.emp=>false
 |.und=>false
 |.ref cs=>PV.freeL cs
 |.sl _ es sp=>PV.freeL es&&PV.freeL sp
 |.iface _ v=>PV.free v
 |.agg cs=>PV.freeL cs
 |.tup vs=>PV.freeL vs
 |.fn _ cs=>PV.freeL cs
 |.bfn _ cs=>PV.freeL cs
 |.map _=>false
 |.hnd _=>false
 |_=>true
def PV.freeL:List PV→Bool
 | []=>true
 |a::l=>PV.free a&&PV.freeL l
end
mutual
def PV.frz:PV→PV
 |.ref cs=>.ref (PV.frzL cs)
 |.sl _ es sp=>.sl none (PV.frzL es) (PV.frzL sp)
 |.iface t v=>.iface t (PV.frz v)
 |.agg cs=>.agg (PV.frzL cs)
 |.tup vs=>.tup (PV.frzL vs)
 |.fn f cs=>.fn f (PV.frzL cs)
 |.bfn f cs=>.bfn f (PV.frzL cs)
 |v=>v
def PV.frzL:List PV→List PV
 | []=>[]
 |a::l=>PV.frz a::PV.frzL l
end
def PV.cells:PV→List PV
 |.agg cs=>cs
 |v=>[v]
mutual
def PV.scal:PV→Bool
 |.int ..|.bool _|.str _|.nilp|.nils|.nili|.nilf|.nilm=>true
 |.iface _ v=>PV.scal v
 |.agg cs=>PV.scalL cs
 |.tup vs=>PV.scalL vs
 |_=>false
def PV.scalL:List PV→Bool
 | []=>true
 |a::l=>PV.scal a&&PV.scalL l
end
def PV.one:PV→Bool
 |.agg _|.tup _|.und=>false
 |_=>true
structure St where
 objs:List (List PV)
 tips:List (Nat×Nat)
inductive CM where
 |std|keep|pur|snap
 deriving DecidableEq
inductive NK where
 |p|s|i|f|m
 deriving DecidableEq
def gG(sz:Nat):List PV→Bool
 |e::_=>e.cells.length==sz
 | []=>true
inductive aM where
 |tmp (t:Nat)
 |cst (v:PV)
inductive cK where
 |mov (x:aM)
 |pick (c a b:aM)
 |nilck (x:aM)
 |arith (op:BinOp) (x y:aM)
 |eqb (neg:Bool) (x y:aM)
 |eqn (neg:Bool) (k:NK) (x:aM)
 |eqa (neg isb:Bool) (n:Nat) (x y:aM)
 |eqs (neg:Bool) (n:Nat) (x y:aM)
 |un (op:UnOp) (x:aM)
 |toInt (k:IntKind) (x:aM)
 |strId (x:aM)
 |toStr (x:aM)
 |field (ag:Bool) (off n:Nat) (x:aM)
 |build (z:List PV) (parts:List (Nat×Nat×aM))
 |mkif (t:Nat) (x:aM)
 |mkfn (f:Nat) (caps:List aM)
 |extract (i:Nat) (x:aM)
 |assert (t:Nat) (ok:Bool) (z:PV) (x:aM)
 |idxs (x i:aM)
 |idxa (len n:Nat) (ag:Bool) (x i:aM)
 |slcs (lo hi:Option aM) (x:aM)
 |slc (sz:Nat) (lo hi:Option aM) (x:aM)
 |slca (len sz:Nat) (lo hi:Option aM) (x:aM)
 |faddr (off:Nat) (x:aM)
 |iaddr (sz:Nat) (x i:aM)
 |iaddra (len sz:Nat) (x i:aM)
 |len (st:Bool) (x:aM)
 |mnmx (mx:Bool) (x y:aM)
 |load (ag:Bool) (n:Nat) (mix:Bool) (x:aM)
 |loadb (b:Nat) (ag:Bool) (n:Nat) (x:aM)
 |store (n:Nat) (a v:aM)
 |stb (l:List Nat) (n:Nat) (a v:aM)
 |box (ro:Bool) (x:aM)
 |alloc (ro:Bool) (z:List PV)
 |bsl (ro:Bool) (ze:PV) (len:Nat) (parts:List (Nat×aM))
 |app (sz bytes:Nat) (s x:aM)
 |toBytes (ro:Bool) (x:aM)
 |mks (sz bytes:Nat) (c:aM)
 |mkm
 |mlk (ks ok:Bool) (z:PV) (x k:aM)
 |mset (ks:Bool) (x k v:aM)
 |mdel (ks:Bool) (x k:aM)
 |mlen (x:aM)
 |slc3 (sz:Nat) (lo:Option aM) (hi mx:aM) (x:aM)
 |mkbfn (f:Nat) (first:List aM)
 |gapp (sz bytes:Nat) (s x:aM)
 |toStrO (x:aM)
 |emp3 (x:aM)
 |emp0
 |gclr (sz:Nat) (z:List PV) (x:aM)
 |call (m:CM) (f:Nat) (args:List aM)
 |callb (b:Nat) (f:Nat) (args:List aM)
 |callv (m:CM) (x:aM) (args:List aM)
 |inv (cm:CM) (m:Nat) (x:aM) (args:List aM)
 |bad
structure aF where
 dst:Option Nat
 op:cK
 guard:Option (Nat×Bool)
inductive az where
 |skip
 |ret
 |exit (n:Nat)
 |region (ops:List aF)
 |seq (a b:az)
 |cond (c:aM) (t e:az)
 |block (n:Nat) (b:az)
 |loop (b:az)
 |clr (l:List (Nat×Nat)) (b:az)
 |rng (pre:List aF) (x:aM) (en:Nat) (post:List aF) (l:List (Nat×Nat)) (b:az)
 |scope (b:az)
 |bad
inductive mS where
 |tmp (t:Nat)
 |cell (t:Nat) (ag:Bool) (n:Nat)
structure ai where
 params:Nat
 results:List mS
 body:az
 raw:Bool
structure rI where
 params:Nat
 results:List mS
 pre:List az
 clo:aF
 t:Nat
 rest:az
 raw:Bool
inductive yN where
 |code (f:ai)
 |codeD (f:rI)
 |indexByte
 |ext (e:List PV→Option PV)
 |exs (e:List PV→St→Option (PV×St))
structure bH where
 fn:Nat→Option yN
 meth:Nat→Nat→Option Nat
abbrev Fr:=Nat→PV
def Fr.bot:Fr:=fun _=>.und
def bw(fr:Fr)(d:Nat)(v:PV):Fr:=fun t=>cond (t==d) v (fr t)
def lK(fr:Fr)(d:Nat)(v:PV)(t:Nat):bw fr d v t=if t=d then v else fr t:=by
 unfold bw;by_cases h:t=d
 ·subst h;simp
 ·have:(t==d)=false:=by simpa using h
  rw[this,if_neg h];rfl
def iQ(lo hi t:Nat):Bool:=(lo-t==0)&&(t+1-hi==0)
def dO(lo hi:Nat)(fr:Fr):Fr:=fun t=>cond (iQ lo hi t) .und (fr t)
def clrs:List (Nat×Nat)→Fr→Fr
 | [],fr=>fr
 |(a,b)::l,fr=>clrs l (dO a b fr)
def aw(fr:Fr)(d:Option Nat)(v:PV):Fr:=match d with|some d=>bw fr d v|none=>fr
def ev(fr:Fr):aM→PV
 |.tmp t=>fr t
 |.cst v=>v
def cW(fr:Fr):Option aM→Option PV
 |none=>none
 |some x=>some (ev fr x)
def gH(op:BinOp)(k:IntKind)(a b:Int):Option PV:=
 match op with
 |.add=>some (.int k (k.wrap (a+b)))
 |.sub=>some (.int k (k.wrap (a-b)))
 |.mul=>some (.int k (k.wrap (a*b)))
 |.quo=>if b=0 then none else some (.int k (k.wrap (a.tdiv b)))
 |.rem=>if b=0 then none else some (.int k (a.tmod b))
 |.and=>some (.int k (k.wrap (BitVec.ofInt k.bits a &&& BitVec.ofInt k.bits b).toNat))
 |.or=>some (.int k (k.wrap (BitVec.ofInt k.bits a ||| BitVec.ofInt k.bits b).toNat))
 |.xor=>some (.int k (k.wrap (BitVec.ofInt k.bits a ^^^ BitVec.ofInt k.bits b).toNat))
 |.andNot=>some (.int k (k.wrap (BitVec.ofInt k.bits a &&& ~~~BitVec.ofInt k.bits b).toNat))
 |.eql=>some (.bool (a==b))
 |.neq=>some (.bool (a != b))
 |.lss=>some (.bool (a<b))
 |.leq=>some (.bool (a≤b))
 |.gtr=>some (.bool (a>b))
 |.geq=>some (.bool (a≥b))
 |_=>none
def Cy(op:BinOp)(k:IntKind)(a b:Int):Option PV:=
 if b<0 then none else
 match op with
 |.shl=>some (.int k (k.wrap (a*2^(min b.toNat k.bits))))
 |.shr=>some (.int k (a.fdiv (2^(min b.toNat k.bits))))
 |_=>none
def Us(op:BinOp)(a b:List UInt8):Option PV:=
 match op with
 |.add=>if a.length+b.length≤9223372036854775807 then some (.str (a++b))else none
 |.eql=>some (.bool (a==b))
 |.neq=>some (.bool !(a==b))
 |.lss=>some (.bool (Op.bytesLess a b))
 |.leq=>some (.bool (Op.bytesLess a b||a==b))
 |.gtr=>some (.bool !(Op.bytesLess a b||a==b))
 |.geq=>some (.bool !(Op.bytesLess a b))
 |_=>none
def fk:BinOp→Bool
 |.shl|.shr=>true
 |_=>false
def arith(op:BinOp):PV→PV→Option PV
 |.int k a,.int l b=>if fk op then Cy op k a b else if k=l then gH op k a b else none
 |.str a,.str b=>Us op a b
 |_,_=>none
def iC(neg:Bool)(b:Bool):PV:=.bool (if neg then !b else b)
def jE:NK→PV→Option Bool
 |.p,.nilp|.s,.nils|.i,.nili|.f,.nilf|.m,.nilm=>some true
 |.p,.ptr ..|.p,.ref _|.s,.sl ..|.s,.osl ..|.s,.emp|.i,.iface ..|.f,.fn ..|.f,.bfn ..|.m,.map _=>some false
 |_,_=>none
def dy(isb:Bool):List PV→List PV→Option Bool
 | [],[]=>some true
 |.bool a::l,.bool b::m=>if isb then(match dy isb l m with|some r=>some (a==b&&r)|none=>none)else none
 |.int k a::l,.int j b::m=>if !isb&&k=j then(match dy isb l m with|some r=>some (a==b&&r)|none=>none)else none
 |_,_=>none
def unOp:UnOp→PV→Option PV
 |.not,.bool b=>some (.bool !b)
 |.neg,.int k n=>some (.int k (k.wrap (0-n)))
 |.xor,.int k n=>some (.int k (k.wrap (BitVec.ofInt k.bits (if k.signed then -1 else k.max) ^^^ BitVec.ofInt k.bits n).toNat))
 |_,_=>none
def lL:List PV→Option (List UInt8)
 | []=>some []
 |.int .u8 n::l=>match lL l with|some r=>some (UInt8.ofNat n.toNat::r)|none=>none
 |_=>none
def aL(s:List UInt8):List PV:=s.map fun b=>.int .u8 b.toNat
def ae(ag:Bool)(n:Nat)(cs:List PV):Option PV:=
 if n≤cs.length then(if ag then some (.agg (cs.take n))else match cs with|c::_=>if n=1 then some c else none | []=>none)else none
def aR(cs:List PV)(off:Nat)(vs:List PV):List PV:=cs.take off++vs++cs.drop (off+vs.length)
def bK(fr:Fr):List (Nat×Nat×aM)→List PV→Option (List PV)
 | [],cs=>some cs
 |(off,n,x)::rest,cs=>
  let v:=(ev fr x).cells
  if v.length=n∧off+n≤cs.length∧v.all PV.one then bK fr rest (aR cs off v)else none
def fE(y:Nat):PV→Option Nat
 |.int _ i=>if 0≤i∧i≤y then some i.toNat else none
 |_=>none
def iR(len cap:Nat):Option PV→Option Nat
 |some v=>fE cap v
 |none=>some len
def kD(h:Nat):Option PV→Option Nat
 |some v=>fE h v
 |none=>some 0
def dP(len cap:Nat)(lo hi:Option PV):Option (Nat×Nat):=
 match iR len cap hi with
 |none=>none
 |some h=>match kD h lo with
  |none=>none
  |some l=>if l≤h then some (l,h)else none
def nU:cK→Bool
 |.load _ _ mix _=>mix
 |.store ..|.stb ..|.box ..|.alloc ..|.bsl ..|.app ..|.toBytes ..|.mks ..|.call ..|.callv ..|.inv ..|.loadb ..|.callb ..|.mkm|.mlk ..|.mset ..|.mdel ..|.mlen _|.slc3 ..|.gapp ..|.toStrO _|.emp0|.gclr ..|.bad=>false
 |_=>true
def ke:cK→Bool
 |.box ro _|.alloc ro _|.bsl ro _ _ _|.toBytes ro _=>ro
 |.call m _ _|.callv m _ _|.inv m _ _ _=>m==.pur
 |.emp0=>true
 |op=>nU op
def aQ(fr:Fr):cK→Option PV
 |.mov x=>some (ev fr x)
 |.pick c a b=>match ev fr c with|.bool true=>some (ev fr a)|.bool false=>some (ev fr b)|_=>none
 |.nilck x=>match ev fr x with
  |.ptr i o=>some (.ptr i o)
  |.ref cs=>some (.ref cs)
  |.iface t v=>some (.iface t v)
  |.fn f cs=>some (.fn f cs)
  |.bfn f cs=>some (.bfn f cs)
  |_=>none
 |.arith op x y=>arith op (ev fr x) (ev fr y)
 |.eqb neg x y=>match ev fr x,ev fr y with|.bool a,.bool b=>some (iC neg (a==b))|_,_=>none
 |.eqn neg k x=>match jE k (ev fr x)with|some b=>some (iC neg b)|none=>none
 |.eqa neg isb n x y=>match ev fr x,ev fr y with
  |.agg a,.agg b=>if a.length=n∧b.length=n then(match dy isb a b with|some r=>some (iC neg r)|none=>none)else none
  |_,_=>none
 |.eqs neg n x y=>match ev fr x,ev fr y with
  |.agg a,.agg b=>if a.length=n∧b.length=n then(match dy false a b with|some r=>some (iC neg r)|none=>none)else none
  |_,_=>none
 |.un op x=>unOp op (ev fr x)
 |.toInt k x=>match ev fr x with|.int _ n=>some (.int k (k.wrap n))|_=>none
 |.strId x=>match ev fr x with|.str s=>some (.str s)|_=>none
 |.toStr x=>match ev fr x with
  |.nils=>some (.str [])
  |.emp=>some (.str [])
  |.sl _ es _=>match lL es with|some s=>some (.str s)|none=>none
  |_=>none
 |.field ag off n x=>match ev fr x with|.agg cs=>ae ag n (cs.drop off)|_=>none
 |.build z parts=>match bK fr parts z with|some cs=>some (.agg cs)|none=>none
 |.mkif t x=>some (.iface t (ev fr x))
 |.mkfn f caps=>some (.fn f (caps.map (ev fr)))
 |.mkbfn f first=>some (.bfn f (first.map (ev fr)))
 |.extract i x=>match ev fr x with|.tup vs=>vs[i]?|_=>none
 |.assert t ok z x=>match ev fr x with
  |.nili=>if ok then some (.tup [z,.bool false])else none
  |.iface u v=>if u=t then some (if ok then .tup [v,.bool true]else v)else(if ok then some (.tup [z,.bool false])else none)
  |_=>none
 |.idxs x i=>match ev fr x,ev fr i with
  |.str s,.int _ j=>if 0≤j then(match s[j.toNat]? with|some b=>some (.int .u8 b.toNat)|none=>none)else none
  |_,_=>none
 |.idxa len n ag x i=>match ev fr x,ev fr i with
  |.agg cs,.int _ j=>if 0≤j∧j<len then ae ag n (cs.drop (j.toNat*n))else none
  |_,_=>none
 |.slcs lo hi x=>match ev fr x with
  |.str s=>match dP s.length s.length (cW fr lo) (cW fr hi)with
   |some (l,h)=>some (.str ((s.take h).drop l))
   |none=>none
  |_=>none
 |.slc sz lo hi x=>match ev fr x with
  |.nils=>match dP 0 0 (cW fr lo) (cW fr hi)with|some _=>some .nils|none=>none
  |.sl tip es sp=>if !gG sz (es++sp)then none else match dP es.length (es.length+sp.length) (cW fr lo) (cW fr hi)with
   |some (l,h)=>some (.sl (if h=es.length then tip else none) (((es++sp).take h).drop l) ((es++sp).drop h))
   |none=>none
  |.osl id off len sz'=>if sz'=sz∧0<sz then(match dP len len (cW fr lo) (cW fr hi)with
   |some (l,h)=>if l=0∨l<h then some (.osl id (off+l*sz) (h-l) sz)else none
   |none=>none)else none
  |.emp=>match dP 0 0 (cW fr lo) (cW fr hi)with|some _=>some .emp|none=>none
  |_=>none
 |.emp3 x=>match ev fr x with
  |.nils=>some .nils
  |.sl ..=>some .emp
  |.osl ..=>some .emp
  |.emp=>some .emp
  |_=>none
 |.slca len sz lo hi x=>match ev fr x with
  |.ptr id off=>match dP len len (cW fr lo) (cW fr hi)with
   |some (l,h)=>if l<h then some (.osl id (off+l*sz) (h-l) 0)else none
   |none=>none
  |.ref cs=>if sz=1∧cs.length=len∧cs.all PV.one=true then(match dP len len (cW fr lo) (cW fr hi)with
   |some (l,h)=>if l<h then some (.sl none ((cs.take h).drop l) (cs.drop h))else none
   |none=>none)else none
  |_=>none
 |.faddr off x=>match ev fr x with
  |.ptr id o=>some (.ptr id (o+off))
  |.ref cs=>if off≤cs.length then some (.ref (cs.drop off))else none
  |_=>none
 |.iaddr sz x i=>match ev fr x,ev fr i with
  |.sl _ es _,.int _ j=>if 0≤j then(match es[j.toNat]? with|some e=>if e.cells.length=sz then some (.ref e.cells)else none|none=>none)else none
  |.osl id off n _,.int _ j=>if 0≤j∧j<n then some (.ptr id (off+j.toNat*sz))else none
  |_,_=>none
 |.iaddra len sz x i=>match ev fr x,ev fr i with
  |.ptr id off,.int _ j=>if 0≤j∧j<len then some (.ptr id (off+j.toNat*sz))else none
  |.ref cs,.int _ j=>if 0≤j∧j<len∧j.toNat*sz≤cs.length then some (.ref (cs.drop (j.toNat*sz)))else none
  |_,_=>none
 |.len true x=>match ev fr x with
  |.str s=>some (.int .i64 s.length)
  |_=>none
 |.len false x=>match ev fr x with
  |.nils=>some (.int .i64 0)
  |.sl _ es _=>some (.int .i64 es.length)
  |.osl _ _ n _=>some (.int .i64 n)
  |.emp=>some (.int .i64 0)
  |_=>none
 |.mnmx mx x y=>match ev fr x,ev fr y with
  |.int k a,.int l b=>if k=l then some (.int k (if mx then(if b>a then b else a)else(if b<a then b else a)))else none
  |_,_=>none
 |.load ag n true x=>match ev fr x with|.ref cs=>ae ag n cs|_=>none
 |_=>none
def dg (S:St) (cs:List PV):PV×St:=(.ptr S.objs.length 0,{S with objs:=S.objs++[cs]})
def bp (S:St) (sz:Nat) (es:List PV):PV×St:=(.sl (some (S.tips.length,es.length)) es [],{S with tips:=S.tips++[(es.length,sz)]})
def bR(fr:Fr)(sz:Nat):List (Nat×aM)→List PV→Option (List PV)
 | [],es=>some es
 |(i,x)::rest,es=>
  let v:=ev fr x
  if v.cells.length=sz∧v.cells.all PV.one∧i<es.length then bR fr sz rest (es.set i v)else none
def gI(sz:Nat):PV→Option (List PV)
 |.nils=>some []
 |.str s=>if sz=1 then some (aL s)else none
 |.sl _ es _=>if gG sz es then some es else none
 |.emp=>some []
 |_=>none
def uN(sz:Nat)(cs:List PV):PV:=match cs with | [c]=>if sz=1 then c else .agg [c]|cs=>.agg cs
def gJ(sz:Nat):Nat→List PV→List PV
 |0,_=>[]
 |n+1,cs=>uN sz (cs.take sz)::gJ sz n (cs.drop sz)
def eF(S:St)(sz:Nat):PV→Option (List PV)
 |.osl id off len sz'=>match S.objs[id]? with
  |some cs=>if sz'=sz∧0<sz∧off+len*sz≤cs.length∧((cs.drop off).take (len*sz)).all PV.one=true then some (gJ sz len (cs.drop off))else none
  |none=>none
 |v=>gI sz v
def fL(sz bytes:Nat)(S:St)(s:PV)(new:List PV):Option (PV×St):=
 match s with
 |.nils=>if new.isEmpty then some (.nils,S)else if new.length*bytes≤140737488355328 then some (bp S sz new)else none
 |.sl tip es sp=>
  if new.isEmpty then some (.sl tip es sp,S)else
  match tip,sp with
  |some (id,e),[]=>
   if S.tips[id]?=some (e,sz)∧(es.length+new.length)*bytes≤140737488355328 then
    some (.sl (some (id,e+new.length)) (es++new) [],{S with tips:=S.tips.set id (e+new.length,sz)})
   else none
  |_,_=>none
 |.emp=>if new.isEmpty then some (.emp,S)else if new.length*bytes≤140737488355328 then some (bp S sz new)else none
 |_=>none
def nX (S:St) (sz:Nat) (new:List PV):PV×St:=(.osl S.objs.length 0 new.length sz,{S with objs:=S.objs++[new.flatMap PV.cells]})
def nY(sz bytes:Nat)(S:St)(s:PV)(new:List PV):Option (PV×St):=
 if new.isEmpty then(match s with|.nils=>some (.nils,S)|.emp=>some (.emp,S)|.osl id off len sz'=>if sz'=sz then some (.osl id off len sz',S)else none|_=>none)else
 match s with
 |.nils=>if new.length*bytes≤140737488355328 then some (nX S sz new)else none
 |.emp=>if new.length*bytes≤140737488355328 then some (nX S sz new)else none
 |.osl id off len sz'=>(match S.objs[id]? with
  |some cs=>if sz'=sz∧off=0∧0<cs.length∧len*sz≤cs.length∧(cs.take (len*sz)).all PV.one=true∧(len+new.length)*bytes≤140737488355328 then
    some (.osl S.objs.length 0 (len+new.length) sz,{S with objs:=S.objs.set id []++[cs.take (len*sz)++new.flatMap PV.cells]})else none
  |none=>none)
 |_=>none
abbrev bS:=Nat→List PV→St→Option (PV×St)
def pN(keep:Bool)(S:St):Option (PV×St)→Option (PV×St)
 |none=>none
 |some (v,S')=>if keep then(if PV.beqLL (S'.objs.take S.objs.length) S.objs then some (v,S')else none)else some (v,S')
def bk:St:=⟨[],[]⟩
def yO:Option (PV×St)→Option PV
 |some (r,_)=>if r.free then some r.frz else none
 |none=>none
def jb(call:bS)(f:Nat)(args:List PV):Option PV:=
 if PV.freeL args then yO (call f (PV.frzL args) bk)else none
def fm(S:St):Option PV→Option (PV×St)
 |some v=>some (v,S)
 |none=>none
def cr(f:PV→Option PV):List PV→Option (List PV)
 | []=>some []
 |a::l=>match f a with
  |some b=>(match cr f l with|some m=>some (b::m)|none=>none)
  |none=>none
def bQ(objs:List (List PV))(n0:Nat):Nat→PV→Option PV
 |0,_=>none
 |k+1,v=>if v.free then some v else
  match v with
  |.ptr id off=>if n0≤id then(match objs[id]? with
    |some cs=>if off≤cs.length then(match cr (bQ objs n0 k) (cs.drop off)with|some ds=>some (.ref ds)|none=>none)else none
    |none=>none)else none
  |.ref cs=>match cr (bQ objs n0 k) cs with|some ds=>some (.ref ds)|none=>none
  |.iface t u=>match bQ objs n0 k u with|some x=>some (.iface t x)|none=>none
  |.agg cs=>match cr (bQ objs n0 k) cs with|some ds=>some (.agg ds)|none=>none
  |.tup cs=>match cr (bQ objs n0 k) cs with|some ds=>some (.tup ds)|none=>none
  |.fn f cs=>match cr (bQ objs n0 k) cs with|some ds=>some (.fn f ds)|none=>none
  |.sl tip es sp=>match cr (bQ objs n0 k) es,cr (bQ objs n0 k) sp with|some a,some b=>some (.sl tip a b)|_,_=>none
  |.osl id off len sz=>if n0≤id∧0<sz then(match objs[id]? with
    |some cs=>if off+len*sz≤cs.length∧((cs.drop off).take (len*sz)).all PV.one=true then(match cr (bQ objs n0 k) ((cs.drop off).take (len*sz))with|some ds=>some (.sl none (gJ sz len ds) [])|none=>none)else none
    |none=>none)else none
  |.emp=>some (.sl none [] [])
  |_=>none
def eM:Nat:=40
def nZ(call:bS)(f:Nat)(args:List PV)(S:St):Option PV:=
 match cr (bQ S.objs 0 eM) args with
 |some as=>(match call f (PV.frzL as) bk with
  |some (r,_)=>if r.scal then some r else none
  |none=>none)
 |none=>none
def cd(call:bS)(m:CM)(f:Nat)(args:List PV)(S:St):Option (PV×St):=
 match m with
 |.std=>call f args S
 |.keep=>pN true S (call f args S)
 |.pur=>fm S (jb call f args)
 |.snap=>fm S (nZ call f args S)
def mT:PV→PV→Option Bool
 |.str a,.str b=>some (a==b)
 |.int k a,.int l b=>if k=l then some (a==b)else none
 |_,_=>none
def lM(k:PV):List PV→Option (Option PV)
 | []=>some none
 | [_]=>none
 |q::v::r=>match mT k q with
  |some true=>some (some v)
  |some false=>lM k r
  |none=>none
def na(k v:PV):List PV→Option (List PV)
 | []=>some [k,v]
 | [_]=>none
 |q::u::r=>match mT k q with
  |some true=>some (k::v::r)
  |some false=>(match na k v r with|some s=>some (q::u::s)|none=>none)
  |none=>none
def nc(k:PV):List PV→Option (List PV)
 | []=>some []
 | [_]=>none
 |q::u::r=>match mT k q with
  |some true=>some r
  |some false=>(match nc k r with|some s=>some (q::u::s)|none=>none)
  |none=>none
def fa:Bool→PV→Bool
 |true,.str _=>true
 |false,.int ..=>true
 |_,_=>false
def jF(ok:Bool)(z:PV):Option PV→PV
 |some v=>if ok then .tup [v,.bool true]else v
 |none=>if ok then .tup [z,.bool false]else z
def nf(S:St)(sz:Nat)(lo:Option PV)(hi mx:PV):PV→Option (PV×St)
 |.nils=>(match fE 0 mx,fE 0 hi,kD 0 lo with|some _,some _,some _=>some (.nils,S)|_,_,_=>none)
 |.sl (some _) es sp=>if gG sz (es++sp)=true∧0<sz then(match fE (es.length+sp.length) mx with
   |some m=>(match fE m hi with
    |some h=>(match kD h lo with
     |some l=>if m=h then some (.sl (some (S.tips.length,h-l)) (((es++sp).take h).drop l) [],{S with tips:=S.tips++[(h-l,sz)]})else none
     |none=>none)
    |none=>none)
   |none=>none)else none
 |_=>none
def jc(fr:Fr)(l:List Nat)(id:Nat):Bool:=l.all fun t=>match fr t with|.ptr i _=>i != id|_=>false
def mU(id:Nat)(S:St):Option (PV×St)→Option (PV×St)
 |some (v,S')=>match S.objs[id]?,S'.objs[id]? with
  |some a,some b=>if PV.beqL a b then some (v,S')else none
  |_,_=>none
 |none=>none
def bL(fr:Fr)(ze:PV)(len:Nat)(parts:List (Nat×aM)):Option (List PV):=
 if 0<ze.cells.length∧ze.cells.all PV.one∧len*ze.cells.length≤16777216 then bR fr ze.cells.length parts (List.replicate len ze)else none
def aI(T:bH)(call:bS)(fr:Fr)(S:St):cK→Option (PV×St)
 |.load ag n false x=>match ev fr x with
  |.ref cs=>match ae ag n cs with|some v=>some (v,S)|none=>none
  |.ptr id off=>match S.objs[id]? with
   |some cs=>match ae ag n (cs.drop off)with|some v=>some (v,S)|none=>none
   |none=>none
  |_=>none
 |.loadb b ag n x=>match fr b,ev fr x with
  |.ptr i _,.ptr id off=>if i=id then(match S.objs[id]? with
   |some cs=>match ae ag n (cs.drop off)with|some v=>some (v,S)|none=>none
   |none=>none)else none
  |_,_=>none
 |.mkm=>some (.map S.objs.length,{S with objs:=S.objs++[[]]})
 |.mlk ks ok z x k=>if fa ks (ev fr k)then(match ev fr x with
  |.nilm=>some (jF ok z none,S)
  |.map id=>(match S.objs[id]? with
   |some cs=>(match lM (ev fr k) cs with|some r=>some (jF ok z r,S)|none=>none)
   |none=>none)
  |_=>none)else none
 |.mset ks x k v=>match ev fr x with
  |.map id=>(match S.objs[id]? with
   |some cs=>(match na (ev fr k) (ev fr v) cs with|some ds=>if fa ks (ev fr k)then some (.und,{S with objs:=S.objs.set id ds})else none|none=>none)
   |none=>none)
  |_=>none
 |.mdel ks x k=>match ev fr x with
  |.map id=>(match S.objs[id]? with
   |some cs=>(match nc (ev fr k) cs with|some ds=>if fa ks (ev fr k)then some (.tup [],{S with objs:=S.objs.set id ds})else none|none=>none)
   |none=>none)
  |_=>none
 |.mlen x=>match ev fr x with
  |.nilm=>some (.int .i64 0,S)
  |.map id=>(match S.objs[id]? with|some cs=>some (.int .i64 ((cs.length/2:Nat):Int),S)|none=>none)
  |_=>none
 |.slc3 sz lo hi mx x=>nf S sz (cW fr lo) (ev fr hi) (ev fr mx) (ev fr x)
 |.callb b f args=>match fr b with
  |.ptr i _=>mU i S (call f (args.map (ev fr)) S)
  |_=>none
 |.store n a v=>match ev fr a with
  |.ptr id off=>match S.objs[id]? with
   |some cs=>
    let vs:=(ev fr v).cells
    if vs.length=n∧off+n≤cs.length∧vs.all PV.one then some (.und,{S with objs:=S.objs.set id (aR cs off vs)})else none
   |none=>none
  |_=>none
 |.stb l n a v=>match ev fr a with
  |.ptr id off=>match S.objs[id]? with
   |some cs=>
    let vs:=(ev fr v).cells
    if jc fr l id=true∧vs.length=n∧off+n≤cs.length∧vs.all PV.one then some (.und,{S with objs:=S.objs.set id (aR cs off vs)})else none
   |none=>none
  |_=>none
 |.box ro x=>if(ev fr x).cells.all PV.one then some (if ro then(.ref (ev fr x).cells,S)else dg S (ev fr x).cells)else none
 |.alloc ro z=>if z.all PV.one then some (if ro then(.ref z,S)else dg S z)else none
 |.bsl ro ze len parts=>match bL fr ze len parts with
  |some es=>some (if ro then(.sl none es [],S)else bp S ze.cells.length es)
  |none=>none
 |.app sz bytes s x=>match eF S sz (ev fr x)with
  |some new=>if 0<sz then fL sz bytes S (ev fr s) new else none
  |none=>none
 |.gapp sz bytes s x=>match eF S sz (ev fr x)with
  |some new=>if 0<sz then nY sz bytes S (ev fr s) new else none
  |none=>none
 |.toStrO x=>match ev fr x with
  |.osl id off len sz=>(match S.objs[id]? with
   |some cs=>if sz=1∧off+len≤cs.length then(match lL ((cs.drop off).take len)with|some s=>some (.str s,S)|none=>none)else none
   |none=>none)
  |.nils=>some (.str [],S)
  |.emp=>some (.str [],S)
  |.sl _ es _=>(match lL es with|some s=>some (.str s,S)|none=>none)
  |_=>none
 |.emp0=>some (.emp,S)
 |.gclr sz z x=>match ev fr x with
  |.osl id off len sz'=>(match S.objs[id]? with
   |some cs=>if sz'=sz∧0<sz∧z.length=sz∧z.all PV.one∧off+len*sz≤cs.length then some (.tup [],{S with objs:=S.objs.set id (aR cs off (List.replicate len z).flatten)})else none
   |none=>none)
  |_=>none
 |.toBytes ro x=>match ev fr x with|.str s=>some (if ro then(.sl none (aL s) [],S)else bp S 1 (aL s))|_=>none
 |.mks sz bytes c=>match ev fr c with
  |.int .i64 n=>if 0≤n∧n*bytes≤140737488355328∧0<sz∧0<bytes then some (bp S sz [])else none
  |_=>none
 |.call m f args=>cd call m f (args.map (ev fr)) S
 |.callv m x args=>match ev fr x with
  |.fn f caps=>cd call m f (args.map (ev fr)++caps) S
  |.bfn f first=>cd call m f (first++args.map (ev fr)) S
  |_=>none
 |.inv cm m x args=>match ev fr x with
  |.iface t v=>match T.meth t m with
   |some f=>cd call cm f (v::args.map (ev fr)) S
   |none=>none
  |_=>none
 |.bad=>none
 |o=>fm S (aQ fr o)
def eG(fr:Fr):Option (Nat×Bool)→Option Bool
 |none=>some true
 |some (t,b)=>match fr t with
  |.bool c=>some (c==b)
  |.tup []=>some false
  |_=>none
def bf(T:bH)(call:bS):List aF→Fr→St→Option (Fr×St)
 | [],fr,S=>some (fr,S)
 |o::rest,fr,S=>
  match eG fr o.guard with
  |none=>none
  |some false=>bf T call rest (aw fr o.dst (.tup [])) S
  |some true=>match aI T call fr S o.op with
   |some (v,S')=>bf T call rest (aw fr o.dst v) S'
   |none=>none
inductive Ex where
 |norm
 |exit (n:Nat)
 |ret
def iS(iter:PV→PV→Fr→St→Option (Fr×St)):List (PV×PV)→Fr→St→Option (Fr×St)
 | [],fr,S=>some (fr,S)
 |(k,v)::r,fr,S=>match iter k v fr S with
  |some (fr',S')=>iS iter r fr' S'
  |none=>none
def ij:List PV→List (PV×PV)
 |k::v::r=>(k,v)::ij r
 |_=>[]
open Classical in
noncomputable def uO (iter:PV→PV→Fr→St→Option (Fr×St))(l:List (PV×PV))(fr:Fr)(S:St):Option (Fr×St):=
 match iS iter l fr S with
 |some r=>if l.length≤1 then some r else if ∀p:List (PV×PV),p.Perm l→iS iter p fr S=some r then some r else none
 |none=>none
def iD(T:bH)(call:bS)(run:Fr→St→Option (Ex×Fr×St))(id:Nat)(cs:List PV)(en:Nat)(post:List aF)(l:List (Nat×Nat))(k v:PV)(fr:Fr)(S:St):Option (Fr×St):=
 match bf T call post (aw fr (some en) (.tup [k,v])) S with
 |some (fr2,S2)=>(match run fr2 S2 with
  |some (.norm,fr3,S3)=>(match S3.objs[id]? with
   |some ds=>if PV.beqL ds cs then some (clrs l fr3,S3)else none
   |none=>none)
  |_=>none)
 |none=>none
noncomputable def iE (T:bH)(call:bS)(run:Fr→St→Option (Ex×Fr×St))(x:aM)(en:Nat)(post:List aF)(l:List (Nat×Nat))(fr:Fr)(S:St):Option (Fr×St):=
 match ev fr x with
 |.map id=>(match S.objs[id]? with
  |some cs=>uO (iD T call run id cs en post l) (ij cs) (clrs l fr) S
  |none=>none)
 |_=>none
noncomputable def bI (T:bH)(call:bS):Nat→az→Fr→St→Option (Ex×Fr×St)
 |0,_,_,_=>none
 |_+1,.skip,fr,S=>some (.norm,fr,S)
 |_+1,.ret,fr,S=>some (.ret,fr,S)
 |_+1,.exit n,fr,S=>some (.exit n,fr,S)
 |_+1,.region ops,fr,S=>match bf T call ops fr S with|some (fr',S')=>some (.norm,fr',S')|none=>none
 |k+1,.seq a b,fr,S=>match bI T call k a fr S with
  |some (.norm,fr',S')=>bI T call k b fr' S'
  |r=>r
 |k+1,.cond c t e,fr,S=>match ev fr c with
  |.bool true=>bI T call k t fr S
  |.bool false=>bI T call k e fr S
  |_=>none
 |k+1,.block n b,fr,S=>match bI T call k b fr S with
  |some (.exit m,fr',S')=>if m=n then some (.norm,fr',S')else some (.exit m,fr',S')
  |r=>r
 |k+1,.loop b,fr,S=>match bI T call k b fr S with
  |some (.norm,fr',S')=>bI T call k (.loop b) fr' S'
  |r=>r
 |k+1,.scope b,fr,S=>bI T call k b fr S
 |k+1,.clr l b,fr,S=>match bI T call k b fr S with
  |some (.norm,fr',S')=>some (.norm,clrs l fr',S')
  |r=>r
 |k+1,.rng pre x en post l b,fr,S=>match bf T call pre fr S with
  |some (fr1,S1)=>(match iE T call (fun fr S=>bI T call k b fr S) x en post l fr1 S1 with
   |some (fr',S')=>some (.norm,fr',S')
   |none=>none)
  |none=>none
 |_+1,.bad,_,_=>none
def gV(args:List PV):Fr:=fun t=>(args[t]?).getD .und
def pO(fr:Fr)(S:St):mS→Option PV
 |.tmp t=>some (fr t)
 |.cell t ag n=>match fr t with
  |.ref cs=>ae ag n cs
  |.ptr id off=>match S.objs[id]? with
   |some cs=>ae ag n (cs.drop off)
   |none=>none
  |_=>none
def eN(fr:Fr)(S:St):List mS→Option (List PV)
 | []=>some []
 |r::l=>match pO fr S r,eN fr S l with
  |some v,some vs=>some (v::vs)
  |_,_=>none
def iF:List PV→PV
 | [v]=>v
 |vs=>.tup vs
def lN:List (List PV)→Bool
 | []=>true
 |a::l=>PV.freeL a&&lN l
def ac(raw:Bool)(S0 S1:St)(r:PV):PV×St:=
 if raw then(r,S1)else
 match bQ S1.objs S0.objs.length eM r with
 |none=>(r,S1)
 |some r'=>
  if PV.beqLL (S1.objs.take S0.objs.length) S0.objs then(r'.frz,⟨S0.objs,S1.tips.take S0.tips.length⟩)
  else if lN (S1.objs.take S0.objs.length)then(r',⟨S1.objs.take S0.objs.length,S1.tips⟩)
  else(r,S1)
def Ut:List PV→Option PV
 | [.str s,.int .u8 c]=>some (.int .i64 (match(List.range s.length).find? (fun i=>(s.getD i 0)==UInt8.ofNat c.toNat)with|some i=>(i:Int)|none=>-1))
 |_=>none
def Cz(sep:List UInt8):List (List UInt8)→List UInt8
 | []=>[]
 | [x]=>x
 |x::y::r=>x++sep++Cz sep (y::r)
def Uu:List PV→Option (List (List UInt8))
 | []=>some []
 |.str s::l=>match Uu l with|some r=>some (s::r)|none=>none
 |_=>none
def aQg:List PV→Option PV
 | [.nils,.str _]=>some (.str [])
 | [.sl _ es _,.str sep]=>match Uu es with
  |some xs=>if xs.length≤140737488355328∧(Cz sep xs).length≤140737488355328 then some (.str (Cz sep xs))else none
  |none=>none
 |_=>none
def aBi:Option yN→Bool
 |some (.code _)=>true
 |_=>false
noncomputable def ng (T:bH)(call:bS)(k:Nat):List az→Fr→St→Option (Fr×St)
 | [],fr,S=>some (fr,S)
 |p::ps,fr,S=>match bI T call k p fr S with
  |some (.norm,fr1,S1)=>ng T call k ps fr1 S1
  |_=>none
noncomputable def pP (call:bS)(cf:Nat)(caps:List PV)(fr:Fr)(S:St):Option (Fr×St):=
 match call cf caps S with
 |some (_,S')=>some (fr,S')
 |none=>none
noncomputable def rJ (T:bH)(call:bS)(k:Nat)(f:rI)(fr:Fr)(S:St):Option (Fr×St):=
 match ng T call k f.pre fr S with
 |none=>none
 |some (fr1,S1)=>match bf T call [f.clo] fr1 S1 with
  |none=>none
  |some (fr2,S2)=>match fr2 f.t with
   |.fn cf caps=>if aBi (T.fn cf)then(match bI T call k f.rest fr2 S2 with
    |some (.norm,fr3,S3)=>pP call cf caps fr3 S3
    |some (.ret,fr3,S3)=>pP call cf caps fr3 S3
    |_=>none)else none
   |_=>none
noncomputable def bY (T:bH):Nat→bS
 |0,_,_,_=>none
 |k+1,g,args,S=>match T.fn g with
  |none=>none
  |some .indexByte=>match Ut args with|some v=>some (v,S)|none=>none
  |some (.ext e)=>match e args with|some v=>some (v,S)|none=>none
  |some (.exs e)=>e args S
  |some (.codeD f)=>
   if args.length=f.params then
    match rJ T (bY T k) k f (gV args) S with
    |some (fr,S')=>(match eN fr S' f.results with|some vs=>some (ac f.raw S S' (iF vs))|none=>none)
    |none=>none
   else none
  |some (.code f)=>
   if args.length=f.params then
    match bI T (bY T k) k f.body (gV args) S with
    |some (.norm,fr,S')=>(match eN fr S' f.results with|some vs=>some (ac f.raw S S' (iF vs))|none=>none)
    |some (.ret,fr,S')=>(match eN fr S' f.results with|some vs=>some (ac f.raw S S' (iF vs))|none=>none)
    |_=>none
   else none
end Ps
