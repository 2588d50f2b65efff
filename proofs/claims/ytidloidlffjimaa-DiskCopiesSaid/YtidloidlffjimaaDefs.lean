/- Defs. -/
import GoSem.Core.Code
import GoSem.Core.View
import GoSem.Op.String
namespace Ps
open Go
inductive PV where
 | und
 | int (k : IntKind) (n : Int)
 | bool (b : Bool)
 | str (s : List UInt8)
 | nilp
 | nils
 | nili
 | nilf
 | ptr (id off : Nat)
 | ref (cs : List PV)
 | sl (tip : Option (Nat × Nat)) (es sp : List PV)
 | osl (id off len sz : Nat)
 | emp
 | iface (t : Nat) (v : PV)
 | agg (cs : List PV)
 | tup (vs : List PV)
 | fn (f : Nat) (caps : List PV)
 | nilm
 | map (id : Nat)
 | bfn (f : Nat) (first : List PV)
 | hnd (b : Nat)
 deriving Inhabited

mutual
def PV.beq : PV → PV → Bool
 | .und, .und => true
 | .int k n, .int l m => k == l && n == m
 | .bool a, .bool b => a == b
 | .str s, .str t => s == t
 | .nilp, .nilp => true
 | .nils, .nils => true
 | .nili, .nili => true
 | .nilf, .nilf => true
 | .ptr a b, .ptr c d => a == c && b == d
 | .ref a, .ref b => PV.beqL a b
 | .sl t a b, .sl u c d => t == u && PV.beqL a c && PV.beqL b d
 | .osl a b c s, .osl d e f t => a == d && b == e && c == f && s == t
 | .emp, .emp => true
 | .iface t v, .iface u x => t == u && PV.beq v x
 | .agg a, .agg b => PV.beqL a b
 | .tup a, .tup b => PV.beqL a b
 | .fn f a, .fn g b => f == g && PV.beqL a b
 | .nilm, .nilm => true
 | .hnd a, .hnd b => a == b
 | .map a, .map b => a == b
 | .bfn f a, .bfn g b => f == g && PV.beqL a b
 | _, _ => false
def PV.beqL : List PV → List PV → Bool
 | [], [] => true
 | a :: l, b :: m => PV.beq a b && PV.beqL l m
 | _, _ => false
end
def PV.beqLL : List (List PV) → List (List PV) → Bool
 | [], [] => true
 | a :: l, b :: m => PV.beqL a b && PV.beqLL l m
 | _, _ => false


mutual
def PV.free : PV → Bool
 | .ptr .. => false
 | .osl .. => false
 | .emp => false
 | .und => false
 | .ref cs => PV.freeL cs
 | .sl _ es sp => PV.freeL es && PV.freeL sp
 | .iface _ v => PV.free v
 | .agg cs => PV.freeL cs
 | .tup vs => PV.freeL vs
 | .fn _ cs => PV.freeL cs
 | .bfn _ cs => PV.freeL cs
 | .map _ => false
 | .hnd _ => false
 | _ => true
def PV.freeL : List PV → Bool
 | [] => true
 | a :: l => PV.free a && PV.freeL l
end
mutual
def PV.frz : PV → PV
 | .ref cs => .ref (PV.frzL cs)
 | .sl _ es sp => .sl none (PV.frzL es) (PV.frzL sp)
 | .iface t v => .iface t (PV.frz v)
 | .agg cs => .agg (PV.frzL cs)
 | .tup vs => .tup (PV.frzL vs)
 | .fn f cs => .fn f (PV.frzL cs)
 | .bfn f cs => .bfn f (PV.frzL cs)
 | v => v
def PV.frzL : List PV → List PV
 | [] => []
 | a :: l => PV.frz a :: PV.frzL l
end
def PV.cells : PV → List PV
 | .agg cs => cs
 | v => [v]

mutual
def PV.scal : PV → Bool
 | .int .. | .bool _ | .str _ | .nilp | .nils | .nili | .nilf | .nilm => true
 | .iface _ v => PV.scal v
 | .agg cs => PV.scalL cs
 | .tup vs => PV.scalL vs
 | _ => false
def PV.scalL : List PV → Bool
 | [] => true
 | a :: l => PV.scal a && PV.scalL l
end
def PV.one : PV → Bool
 | .agg _ | .tup _ | .und => false
 | _ => true

structure St where
 objs : List (List PV)
 tips : List (Nat × Nat)

inductive CM where
 | std | keep | pur | snap
 deriving DecidableEq

inductive NK where
 | p | s | i | f | m
 deriving DecidableEq

def szOk (sz : Nat) : List PV → Bool
 | e :: _ => e.cells.length == sz
 | [] => true

inductive Opd where
 | tmp (t : Nat)
 | cst (v : PV)

inductive POp where
 | mov (x : Opd)
 | pick (c a b : Opd)
 | nilck (x : Opd)
 | arith (op : BinOp) (x y : Opd)
 | eqb (neg : Bool) (x y : Opd)
 | eqn (neg : Bool) (k : NK) (x : Opd)
 | eqa (neg isb : Bool) (n : Nat) (x y : Opd)
 | eqs (neg : Bool) (n : Nat) (x y : Opd)
 | un (op : UnOp) (x : Opd)
 | toInt (k : IntKind) (x : Opd)
 | strId (x : Opd)
 | toStr (x : Opd)
 | field (ag : Bool) (off n : Nat) (x : Opd)
 | build (z : List PV) (parts : List (Nat × Nat × Opd))
 | mkif (t : Nat) (x : Opd)
 | mkfn (f : Nat) (caps : List Opd)
 | extract (i : Nat) (x : Opd)
 | assert (t : Nat) (ok : Bool) (z : PV) (x : Opd)
 | idxs (x i : Opd)
 | idxa (len n : Nat) (ag : Bool) (x i : Opd)
 | slcs (lo hi : Option Opd) (x : Opd)
 | slc (sz : Nat) (lo hi : Option Opd) (x : Opd)
 | slca (len sz : Nat) (lo hi : Option Opd) (x : Opd)
 | faddr (off : Nat) (x : Opd)
 | iaddr (sz : Nat) (x i : Opd)
 | iaddra (len sz : Nat) (x i : Opd)
 | len (st : Bool) (x : Opd)
 | mnmx (mx : Bool) (x y : Opd)
 | load (ag : Bool) (n : Nat) (mix : Bool) (x : Opd)
 | loadb (b : Nat) (ag : Bool) (n : Nat) (x : Opd)
 | store (n : Nat) (a v : Opd)
 | stb (l : List Nat) (n : Nat) (a v : Opd)
 | box (ro : Bool) (x : Opd)
 | alloc (ro : Bool) (z : List PV)
 | bsl (ro : Bool) (ze : PV) (len : Nat) (parts : List (Nat × Opd))
 | app (sz bytes : Nat) (s x : Opd)
 | toBytes (ro : Bool) (x : Opd)
 | mks (sz bytes : Nat) (c : Opd)
 | mkm
 | mlk (ks ok : Bool) (z : PV) (x k : Opd)
 | mset (ks : Bool) (x k v : Opd)
 | mdel (ks : Bool) (x k : Opd)
 | mlen (x : Opd)
 | slc3 (sz : Nat) (lo : Option Opd) (hi mx : Opd) (x : Opd)
 | mkbfn (f : Nat) (first : List Opd)
 | gapp (sz bytes : Nat) (s x : Opd)
 | toStrO (x : Opd)
 | emp3 (x : Opd)
 | emp0
 | gclr (sz : Nat) (z : List PV) (x : Opd)
 | plk (ok : Bool) (z : PV) (x k : Opd)
 | pset (x k v : Opd)
 | wc (l : List Nat) (x : Opd) (args : List Opd)
 | pan (x : Opd)
 | rcv
 | call (m : CM) (f : Nat) (args : List Opd)
 | callb (b : Nat) (f : Nat) (args : List Opd)
 | callv (m : CM) (x : Opd) (args : List Opd)
 | inv (cm : CM) (m : Nat) (x : Opd) (args : List Opd)
 | bad

structure POper where
 dst : Option Nat
 op : POp
 guard : Option (Nat × Bool)

inductive PCode where
 | skip
 | ret
 | exit (n : Nat)
 | region (ops : List POper)
 | seq (a b : PCode)
 | cond (c : Opd) (t e : PCode)
 | block (n : Nat) (b : PCode)
 | loop (b : PCode)
 | clr (l : List (Nat × Nat)) (b : PCode)
 | rng (pre : List POper) (x : Opd) (en : Nat) (post : List POper) (l : List (Nat × Nat)) (b : PCode)
 | scope (b : PCode)
 | bad

inductive PRes where
 | tmp (t : Nat)
 | cell (t : Nat) (ag : Bool) (n : Nat)

structure PCodeFn where
 params : Nat
 results : List PRes
 body : PCode
 raw : Bool

structure PDef where
 params : Nat
 results : List PRes
 pre : List PCode
 clo : POper
 t : Nat
 rest : PCode
 raw : Bool

inductive PFn where
 | code (f : PCodeFn)
 | codeD (f : PDef)
 | indexByte
 | ext (e : List PV → Option PV)
 | exs (e : List PV → St → Option (PV × St))

structure Tbl where
 fn : Nat → Option PFn
 meth : Nat → Nat → Option Nat

abbrev Fr := Nat → PV
def Fr.bot : Fr := fun _ => .und
def upd (fr : Fr) (d : Nat) (v : PV) : Fr := fun t => cond (t == d) v (fr t)
theorem upd_ite (fr : Fr) (d : Nat) (v : PV) (t : Nat) : upd fr d v t = if t = d then v else fr t := by
 unfold upd
 by_cases h : t = d
 ·subst h; simp
 ·have : (t == d) = false := by simpa using h
  rw [this, if_neg h]; rfl
def inI (lo hi t : Nat) : Bool := (lo - t == 0) && (t + 1 - hi == 0)
def clrI (lo hi : Nat) (fr : Fr) : Fr := fun t => cond (inI lo hi t) .und (fr t)
def clrs : List (Nat × Nat) → Fr → Fr
 | [], fr => fr
 | (a, b) :: l, fr => clrs l (clrI a b fr)
def updO (fr : Fr) (d : Option Nat) (v : PV) : Fr := match d with | some d => upd fr d v | none => fr

def ev (fr : Fr) : Opd → PV
 | .tmp t => fr t
 | .cst v => v

def evO (fr : Fr) : Option Opd → Option PV
 | none => none
 | some x => some (ev fr x)

def intOp (op : BinOp) (k : IntKind) (a b : Int) : Option PV :=
 match op with
 | .add => some (.int k (k.wrap (a + b)))
 | .sub => some (.int k (k.wrap (a - b)))
 | .mul => some (.int k (k.wrap (a * b)))
 | .quo => if b = 0 then none else some (.int k (k.wrap (a.tdiv b)))
 | .rem => if b = 0 then none else some (.int k (a.tmod b))
 | .and => some (.int k (k.wrap (BitVec.ofInt k.bits a &&& BitVec.ofInt k.bits b).toNat))
 | .or => some (.int k (k.wrap (BitVec.ofInt k.bits a ||| BitVec.ofInt k.bits b).toNat))
 | .xor => some (.int k (k.wrap (BitVec.ofInt k.bits a ^^^ BitVec.ofInt k.bits b).toNat))
 | .andNot => some (.int k (k.wrap (BitVec.ofInt k.bits a &&& ~~~BitVec.ofInt k.bits b).toNat))
 | .eql => some (.bool (a == b))
 | .neq => some (.bool (a != b))
 | .lss => some (.bool (a < b))
 | .leq => some (.bool (a ≤ b))
 | .gtr => some (.bool (a > b))
 | .geq => some (.bool (a ≥ b))
 | _ => none

def shiftOp (op : BinOp) (k : IntKind) (a b : Int) : Option PV :=
 if b < 0 then none else
 match op with
 | .shl => some (.int k (k.wrap (a * 2 ^ (min b.toNat k.bits))))
 | .shr => some (.int k (a.fdiv (2 ^ (min b.toNat k.bits))))
 | _ => none

def strOp (op : BinOp) (a b : List UInt8) : Option PV :=
 match op with
 | .add => if a.length + b.length ≤ 9223372036854775807 then some (.str (a ++ b)) else none
 | .eql => some (.bool (a == b))
 | .neq => some (.bool !(a == b))
 | .lss => some (.bool (Op.bytesLess a b))
 | .leq => some (.bool (Op.bytesLess a b || a == b))
 | .gtr => some (.bool !(Op.bytesLess a b || a == b))
 | .geq => some (.bool !(Op.bytesLess a b))
 | _ => none

def isShift : BinOp → Bool
 | .shl | .shr => true
 | _ => false

def arith (op : BinOp) : PV → PV → Option PV
 | .int k a, .int l b => if isShift op then shiftOp op k a b else if k = l then intOp op k a b else none
 | .str a, .str b => strOp op a b
 | _, _ => none

def negIf (neg : Bool) (b : Bool) : PV := .bool (if neg then !b else b)

def isNil : NK → PV → Option Bool
 | .p, .nilp | .s, .nils | .i, .nili | .f, .nilf | .m, .nilm => some true
 | .p, .ptr .. | .p, .ref _ | .s, .sl .. | .s, .osl .. | .s, .emp | .i, .iface .. | .f, .fn .. | .f, .bfn .. | .m, .map _ => some false
 | _, _ => none

def eqCells (isb : Bool) : List PV → List PV → Option Bool
 | [], [] => some true
 | .bool a :: l, .bool b :: m => if isb then (match eqCells isb l m with | some r => some (a == b && r) | none => none) else none
 | .int k a :: l, .int j b :: m => if !isb && k = j then (match eqCells isb l m with | some r => some (a == b && r) | none => none) else none
 | _, _ => none

def unOp : UnOp → PV → Option PV
 | .not, .bool b => some (.bool !b)
 | .neg, .int k n => some (.int k (k.wrap (0 - n)))
 | .xor, .int k n => some (.int k (k.wrap (BitVec.ofInt k.bits (if k.signed then -1 else k.max) ^^^ BitVec.ofInt k.bits n).toNat))
 | _, _ => none

def bytesOf : List PV → Option (List UInt8)
 | [] => some []
 | .int .u8 n :: l => match bytesOf l with | some r => some (UInt8.ofNat n.toNat :: r) | none => none
 | _ => none

def ofBytes (s : List UInt8) : List PV := s.map fun b => .int .u8 b.toNat

def partOf (ag : Bool) (n : Nat) (cs : List PV) : Option PV :=
 if n ≤ cs.length then (if ag then some (.agg (cs.take n)) else match cs with | c :: _ => if n = 1 then some c else none | [] => none) else none

def putCells (cs : List PV) (off : Nat) (vs : List PV) : List PV := cs.take off ++ vs ++ cs.drop (off + vs.length)

def fillParts (fr : Fr) : List (Nat × Nat × Opd) → List PV → Option (List PV)
 | [], cs => some cs
 | (off, n, x) :: rest, cs =>
  let v := (ev fr x).cells
  if v.length = n ∧ off + n ≤ cs.length ∧ v.all PV.one then fillParts fr rest (putCells cs off v) else none

def bound (y : Nat) : PV → Option Nat
 | .int _ i => if 0 ≤ i ∧ i ≤ y then some i.toNat else none
 | _ => none

def hiOf (len cap : Nat) : Option PV → Option Nat
 | some v => bound cap v
 | none => some len

def loOf (h : Nat) : Option PV → Option Nat
 | some v => bound h v
 | none => some 0

def bounds (len cap : Nat) (lo hi : Option PV) : Option (Nat × Nat) :=
 match hiOf len cap hi with
 | none => none
 | some h => match loOf h lo with
  | none => none
  | some l => if l ≤ h then some (l, h) else none

def pure0 : POp → Bool
 | .load _ _ mix _ => mix
 | .store .. | .stb .. | .box .. | .alloc .. | .bsl .. | .app .. | .toBytes .. | .mks .. | .call .. | .callv .. | .inv .. | .loadb .. | .callb .. | .mkm | .mlk .. | .mset .. | .mdel .. | .mlen _ | .slc3 .. | .gapp .. | .toStrO _ | .emp0 | .gclr .. | .plk .. | .pset .. | .wc .. | .pan _ | .rcv | .bad => false
 | _ => true

def pure1 : POp → Bool
 | .box ro _ | .alloc ro _ | .bsl ro _ _ _ | .toBytes ro _ => ro
 | .call m _ _ | .callv m _ _ | .inv m _ _ _ => m == .pur
 | .emp0 => true
 | op => pure0 op

def peval (fr : Fr) : POp → Option PV
 | .mov x => some (ev fr x)
 | .pick c a b => match ev fr c with | .bool true => some (ev fr a) | .bool false => some (ev fr b) | _ => none
 | .nilck x => match ev fr x with
  | .ptr i o => some (.ptr i o)
  | .ref cs => some (.ref cs)
  | .iface t v => some (.iface t v)
  | .fn f cs => some (.fn f cs)
  | .bfn f cs => some (.bfn f cs)
  | _ => none
 | .arith op x y => arith op (ev fr x) (ev fr y)
 | .eqb neg x y => match ev fr x, ev fr y with | .bool a, .bool b => some (negIf neg (a == b)) | _, _ => none
 | .eqn neg k x => match isNil k (ev fr x) with | some b => some (negIf neg b) | none => none
 | .eqa neg isb n x y => match ev fr x, ev fr y with
  | .agg a, .agg b => if a.length = n ∧ b.length = n then (match eqCells isb a b with | some r => some (negIf neg r) | none => none) else none
  | _, _ => none
 | .eqs neg n x y => match ev fr x, ev fr y with
  | .agg a, .agg b => if a.length = n ∧ b.length = n then (match eqCells false a b with | some r => some (negIf neg r) | none => none) else none
  | _, _ => none
 | .un op x => unOp op (ev fr x)
 | .toInt k x => match ev fr x with | .int _ n => some (.int k (k.wrap n)) | _ => none
 | .strId x => match ev fr x with | .str s => some (.str s) | _ => none
 | .toStr x => match ev fr x with
  | .nils => some (.str [])
  | .emp => some (.str [])
  | .sl _ es _ => match bytesOf es with | some s => some (.str s) | none => none
  | _ => none
 | .field ag off n x => match ev fr x with | .agg cs => partOf ag n (cs.drop off) | _ => none
 | .build z parts => match fillParts fr parts z with | some cs => some (.agg cs) | none => none
 | .mkif t x => some (.iface t (ev fr x))
 | .mkfn f caps => some (.fn f (caps.map (ev fr)))
 | .mkbfn f first => some (.bfn f (first.map (ev fr)))
 | .extract i x => match ev fr x with | .tup vs => vs[i]? | _ => none
 | .assert t ok z x => match ev fr x with
  | .nili => if ok then some (.tup [z, .bool false]) else none
  | .iface u v => if u = t then some (if ok then .tup [v, .bool true] else v) else (if ok then some (.tup [z, .bool false]) else none)
  | _ => none
 | .idxs x i => match ev fr x, ev fr i with
  | .str s, .int _ j => if 0 ≤ j then (match s[j.toNat]? with | some b => some (.int .u8 b.toNat) | none => none) else none
  | _, _ => none
 | .idxa len n ag x i => match ev fr x, ev fr i with
  | .agg cs, .int _ j => if 0 ≤ j ∧ j < len then partOf ag n (cs.drop (j.toNat * n)) else none
  | _, _ => none
 | .slcs lo hi x => match ev fr x with
  | .str s => match bounds s.length s.length (evO fr lo) (evO fr hi) with
   | some (l, h) => some (.str ((s.take h).drop l))
   | none => none
  | _ => none
 | .slc sz lo hi x => match ev fr x with
  | .nils => match bounds 0 0 (evO fr lo) (evO fr hi) with | some _ => some .nils | none => none
  | .sl tip es sp => if !szOk sz (es ++ sp) then none else match bounds es.length (es.length + sp.length) (evO fr lo) (evO fr hi) with
   | some (l, h) => some (.sl (if h = es.length then tip else none) (((es ++ sp).take h).drop l) ((es ++ sp).drop h))
   | none => none
  | .osl id off len sz' => if sz' = sz ∧ 0 < sz then (match bounds len len (evO fr lo) (evO fr hi) with
   | some (l, h) => if l = 0 ∨ l < h then some (.osl id (off + l * sz) (h - l) sz) else none
   | none => none) else none
  | .emp => match bounds 0 0 (evO fr lo) (evO fr hi) with | some _ => some .emp | none => none
  | _ => none
 | .emp3 x => match ev fr x with
  | .nils => some .nils
  | .sl .. => some .emp
  | .osl .. => some .emp
  | .emp => some .emp
  | _ => none
 | .slca len sz lo hi x => match ev fr x with
  | .ptr id off => match bounds len len (evO fr lo) (evO fr hi) with
   | some (l, h) => if l < h then some (.osl id (off + l * sz) (h - l) 0) else none
   | none => none
  | .ref cs => if sz = 1 ∧ cs.length = len ∧ cs.all PV.one = true then (match bounds len len (evO fr lo) (evO fr hi) with
   | some (l, h) => if l < h then some (.sl none ((cs.take h).drop l) (cs.drop h)) else none
   | none => none) else none
  | _ => none
 | .faddr off x => match ev fr x with
  | .ptr id o => some (.ptr id (o + off))
  | .ref cs => if off ≤ cs.length then some (.ref (cs.drop off)) else none
  | _ => none
 | .iaddr sz x i => match ev fr x, ev fr i with
  | .sl _ es _, .int _ j => if 0 ≤ j then (match es[j.toNat]? with | some e => if e.cells.length = sz then some (.ref e.cells) else none | none => none) else none
  | .osl id off n _, .int _ j => if 0 ≤ j ∧ j < n then some (.ptr id (off + j.toNat * sz)) else none
  | _, _ => none
 | .iaddra len sz x i => match ev fr x, ev fr i with
  | .ptr id off, .int _ j => if 0 ≤ j ∧ j < len then some (.ptr id (off + j.toNat * sz)) else none
  | .ref cs, .int _ j => if 0 ≤ j ∧ j < len ∧ j.toNat * sz ≤ cs.length then some (.ref (cs.drop (j.toNat * sz))) else none
  | _, _ => none
 | .len true x => match ev fr x with
  | .str s => some (.int .i64 s.length)
  | _ => none
 | .len false x => match ev fr x with
  | .nils => some (.int .i64 0)
  | .sl _ es _ => some (.int .i64 es.length)
  | .osl _ _ n _ => some (.int .i64 n)
  | .emp => some (.int .i64 0)
  | _ => none
 | .mnmx mx x y => match ev fr x, ev fr y with
  | .int k a, .int l b => if k = l then some (.int k (if mx then (if b > a then b else a) else (if b < a then b else a))) else none
  | _, _ => none
 | .load ag n true x => match ev fr x with | .ref cs => partOf ag n cs | _ => none
 | _ => none

def newObj (S : St) (cs : List PV) : PV × St := (.ptr S.objs.length 0, { S with objs := S.objs ++ [cs] })
def newArr (S : St) (sz : Nat) (es : List PV) : PV × St := (.sl (some (S.tips.length, es.length)) es [], { S with tips := S.tips ++ [(es.length, sz)] })

def setParts (fr : Fr) (sz : Nat) : List (Nat × Opd) → List PV → Option (List PV)
 | [], es => some es
 | (i, x) :: rest, es =>
  let v := ev fr x
  if v.cells.length = sz ∧ v.cells.all PV.one ∧ i < es.length then setParts fr sz rest (es.set i v) else none

def appended (sz : Nat) : PV → Option (List PV)
 | .nils => some []
 | .str s => if sz = 1 then some (ofBytes s) else none
 | .sl _ es _ => if szOk sz es then some es else none
 | .emp => some []
 | _ => none

def mkE (sz : Nat) (cs : List PV) : PV := match cs with | [c] => if sz = 1 then c else .agg [c] | cs => .agg cs
def chunk (sz : Nat) : Nat → List PV → List PV
 | 0, _ => []
 | n + 1, cs => mkE sz (cs.take sz) :: chunk sz n (cs.drop sz)
def appendedS (S : St) (sz : Nat) : PV → Option (List PV)
 | .osl id off len sz' => match S.objs[id]? with
  | some cs => if sz' = sz ∧ 0 < sz ∧ off + len * sz ≤ cs.length ∧ ((cs.drop off).take (len * sz)).all PV.one = true then some (chunk sz len (cs.drop off)) else none
  | none => none
 | v => appended sz v

def appendTo (sz bytes : Nat) (S : St) (s : PV) (new : List PV) : Option (PV × St) :=
 match s with
 | .nils => if new.isEmpty then some (.nils, S) else if new.length * bytes ≤ 140737488355328 then some (newArr S sz new) else none
 | .sl tip es sp =>
  if new.isEmpty then some (.sl tip es sp, S) else
  match tip, sp with
  | some (id, e), [] =>
   if S.tips[id]? = some (e, sz) ∧ (es.length + new.length) * bytes ≤ 140737488355328 then
    some (.sl (some (id, e + new.length)) (es ++ new) [], { S with tips := S.tips.set id (e + new.length, sz) })
   else none
  | _, _ => none
 | .emp => if new.isEmpty then some (.emp, S) else if new.length * bytes ≤ 140737488355328 then some (newArr S sz new) else none
 | _ => none

def newG (S : St) (sz : Nat) (new : List PV) : PV × St := (.osl S.objs.length 0 new.length sz, { S with objs := S.objs ++ [new.flatMap PV.cells] })
def gappTo (sz bytes : Nat) (S : St) (s : PV) (new : List PV) : Option (PV × St) :=
 if new.isEmpty then (match s with | .nils => some (.nils, S) | .emp => some (.emp, S) | .osl id off len sz' => if sz' = sz then some (.osl id off len sz', S) else none | _ => none) else
 match s with
 | .nils => if new.length * bytes ≤ 140737488355328 then some (newG S sz new) else none
 | .emp => if new.length * bytes ≤ 140737488355328 then some (newG S sz new) else none
 | .osl id off len sz' => (match S.objs[id]? with
  | some cs => if sz' = sz ∧ off = 0 ∧ 0 < cs.length ∧ len * sz ≤ cs.length ∧ (cs.take (len * sz)).all PV.one = true ∧ (len + new.length) * bytes ≤ 140737488355328 then
    some (.osl S.objs.length 0 (len + new.length) sz, { S with objs := S.objs.set id [] ++ [cs.take (len * sz) ++ new.flatMap PV.cells] }) else none
  | none => none)
 | _ => none

abbrev CallP := Nat → List PV → St → Option (PV × St)

def keepIf (keep : Bool) (S : St) : Option (PV × St) → Option (PV × St)
 | none => none
 | some (v, S') => if keep then (if PV.beqLL (S'.objs.take S.objs.length) S.objs then some (v, S') else none) else some (v, S')

def St0 : St := ⟨[], []⟩

def onlyVal : Option (PV × St) → Option PV
 | some (r, _) => if r.free then some r.frz else none
 | none => none

def purCall (call : CallP) (f : Nat) (args : List PV) : Option PV :=
 if PV.freeL args then onlyVal (call f (PV.frzL args) St0) else none

def withSt (S : St) : Option PV → Option (PV × St)
 | some v => some (v, S)
 | none => none

def mapO (f : PV → Option PV) : List PV → Option (List PV)
 | [] => some []
 | a :: l => match f a with
  | some b => (match mapO f l with | some m => some (b :: m) | none => none)
  | none => none

def sol (objs : List (List PV)) (n0 : Nat) : Nat → PV → Option PV
 | 0, _ => none
 | k + 1, v => if v.free then some v else
  match v with
  | .ptr id off => if n0 ≤ id then (match objs[id]? with
    | some cs => if off ≤ cs.length then (match mapO (sol objs n0 k) (cs.drop off) with | some ds => some (.ref ds) | none => none) else none
    | none => none) else none
  | .ref cs => match mapO (sol objs n0 k) cs with | some ds => some (.ref ds) | none => none
  | .iface t u => match sol objs n0 k u with | some x => some (.iface t x) | none => none
  | .agg cs => match mapO (sol objs n0 k) cs with | some ds => some (.agg ds) | none => none
  | .tup cs => match mapO (sol objs n0 k) cs with | some ds => some (.tup ds) | none => none
  | .fn f cs => match mapO (sol objs n0 k) cs with | some ds => some (.fn f ds) | none => none
  | .sl tip es sp => match mapO (sol objs n0 k) es, mapO (sol objs n0 k) sp with | some a, some b => some (.sl tip a b) | _, _ => none
  | .osl id off len sz => if n0 ≤ id ∧ 0 < sz then (match objs[id]? with
    | some cs => if off + len * sz ≤ cs.length ∧ ((cs.drop off).take (len * sz)).all PV.one = true then (match mapO (sol objs n0 k) ((cs.drop off).take (len * sz)) with | some ds => some (.sl none (chunk sz len ds) []) | none => none) else none
    | none => none) else none
  | .emp => some (.sl none [] [])
  | _ => none

def solFuel : Nat := 40

def snapCall (call : CallP) (f : Nat) (args : List PV) (S : St) : Option PV :=
 match mapO (sol S.objs 0 solFuel) args with
 | some as => (match call f (PV.frzL as) St0 with
  | some (r, _) => if r.scal then some r else none
  | none => none)
 | none => none

def aCall (call : CallP) (m : CM) (f : Nat) (args : List PV) (S : St) : Option (PV × St) :=
 match m with
 | .std => call f args S
 | .keep => keepIf true S (call f args S)
 | .pur => withSt S (purCall call f args)
 | .snap => withSt S (snapCall call f args S)

def keyEq : PV → PV → Option Bool
 | .str a, .str b => some (a == b)
 | .int k a, .int l b => if k = l then some (a == b) else none
 | _, _ => none
def mfind (k : PV) : List PV → Option (Option PV)
 | [] => some none
 | [_] => some none
 | q :: v :: r => match keyEq k q with
  | some true => some (some v)
  | some false => mfind k r
  | none => none
def mput (k v : PV) : List PV → Option (List PV)
 | [] => some [k, v]
 | [_] => none
 | q :: u :: r => match keyEq k q with
  | some true => if r.length % 2 = 0 then some (k :: v :: r) else none
  | some false => (match mput k v r with | some s => some (q :: u :: s) | none => none)
  | none => none
def mdelP (k : PV) : List PV → Option (List PV)
 | [] => some []
 | [_] => none
 | q :: u :: r => match keyEq k q with
  | some true => if r.length % 2 = 0 then some r else none
  | some false => (match mdelP k r with | some s => some (q :: u :: s) | none => none)
  | none => none
def keyP : PV → Bool
 | .str _ | .int .. | .ptr .. => true
 | _ => false
def isKeyP : Bool → PV → Bool
 | true, .str _ => true
 | false, .int .. => true
 | _, _ => false
def lookP (ok : Bool) (z : PV) : Option PV → PV
 | some v => if ok then .tup [v, .bool true] else v
 | none => if ok then .tup [z, .bool false] else z
def liveP (S : St) : PV → Bool
 | .ptr i _ => (match S.objs[i]? with | some (_ :: _) => true | _ => false)
 | _ => false
def keysLive (S : St) : List PV → Bool
 | k :: _ :: r => liveP S k && keysLive S r
 | _ => true
def pfind (k : PV) : List PV → Option PV
 | q :: v :: r => if PV.beq q k then some v else pfind k r
 | _ => none
def pput (k v : PV) : List PV → List PV
 | q :: u :: r => if PV.beq q k then k :: v :: r else q :: u :: pput k v r
 | _ => [k, v]
def slc3P (S : St) (sz : Nat) (lo : Option PV) (hi mx : PV) : PV → Option (PV × St)
 | .nils => (match bound 0 mx, bound 0 hi, loOf 0 lo with | some _, some _, some _ => some (.nils, S) | _, _, _ => none)
 | .sl (some _) es sp => if szOk sz (es ++ sp) = true ∧ 0 < sz then (match bound (es.length + sp.length) mx with
   | some m => (match bound m hi with
    | some h => (match loOf h lo with
     | some l => if m = h then some (.sl (some (S.tips.length, h - l)) (((es ++ sp).take h).drop l) [], { S with tips := S.tips ++ [(h - l, sz)] }) else none
     | none => none)
    | none => none)
   | none => none) else none
 | _ => none

def notAt (fr : Fr) (l : List Nat) (id : Nat) : Bool := l.all fun t => match fr t with | .ptr i _ => i != id | _ => false

def keepO (id : Nat) (S : St) : Option (PV × St) → Option (PV × St)
 | some (v, S') => match S.objs[id]?, S'.objs[id]? with
  | some a, some b => if PV.beqL a b then some (v, S') else none
  | _, _ => none
 | none => none

def elems (fr : Fr) (ze : PV) (len : Nat) (parts : List (Nat × Opd)) : Option (List PV) :=
 if 0 < ze.cells.length ∧ ze.cells.all PV.one ∧ len * ze.cells.length ≤ 16777216 then setParts fr ze.cells.length parts (List.replicate len ze) else none

def pstep (T : Tbl) (call : CallP) (fr : Fr) (S : St) : POp → Option (PV × St)
 | .load ag n false x => match ev fr x with
  | .ref cs => match partOf ag n cs with | some v => some (v, S) | none => none
  | .ptr id off => match S.objs[id]? with
   | some cs => match partOf ag n (cs.drop off) with | some v => some (v, S) | none => none
   | none => none
  | _ => none
 | .loadb b ag n x => match fr b, ev fr x with
  | .ptr i _, .ptr id off => if i = id then (match S.objs[id]? with
   | some cs => match partOf ag n (cs.drop off) with | some v => some (v, S) | none => none
   | none => none) else none
  | _, _ => none
 | .mkm => some (.map S.objs.length, { S with objs := S.objs ++ [[]] })
 | .mlk ks ok z x k => if isKeyP ks (ev fr k) then (match ev fr x with
  | .nilm => some (lookP ok z none, S)
  | .map id => (match S.objs[id]? with
   | some cs => (match mfind (ev fr k) cs with | some r => some (lookP ok z r, S) | none => none)
   | none => none)
  | _ => none) else none
 | .mset ks x k v => match ev fr x with
  | .map id => (match S.objs[id]? with
   | some cs => (match mput (ev fr k) (ev fr v) cs with | some ds => if isKeyP ks (ev fr k) then some (.und, { S with objs := S.objs.set id ds }) else none | none => none)
   | none => none)
  | _ => none
 | .mdel ks x k => match ev fr x with
  | .map id => (match S.objs[id]? with
   | some cs => (match mdelP (ev fr k) cs with | some ds => if isKeyP ks (ev fr k) then some (.tup [], { S with objs := S.objs.set id ds }) else none | none => none)
   | none => none)
  | _ => none
 | .plk ok z x k => match ev fr x with
  | .map id => (match S.objs[id]? with
   | some cs => if liveP S (ev fr k) = true ∧ keysLive S cs = true then some (lookP ok z (pfind (ev fr k) cs), S) else none
   | none => none)
  | _ => none
 | .pset x k v => match ev fr x with
  | .map id => (match S.objs[id]? with
   | some cs => if liveP S (ev fr k) = true ∧ keysLive S cs = true ∧ cs.length % 2 = 0 then some (.und, { S with objs := S.objs.set id (pput (ev fr k) (ev fr v) cs) }) else none
   | none => none)
  | _ => none
 | .mlen x => match ev fr x with
  | .nilm => some (.int .i64 0, S)
  | .map id => (match S.objs[id]? with | some cs => some (.int .i64 ((cs.length / 2 : Nat) : Int), S) | none => none)
  | _ => none
 | .slc3 sz lo hi mx x => slc3P S sz (evO fr lo) (ev fr hi) (ev fr mx) (ev fr x)
 | .callb b f args => match fr b with
  | .ptr i _ => keepO i S (call f (args.map (ev fr)) S)
  | _ => none
 | .store n a v => match ev fr a with
  | .ptr id off => match S.objs[id]? with
   | some cs =>
    let vs := (ev fr v).cells
    if vs.length = n ∧ off + n ≤ cs.length ∧ vs.all PV.one then some (.und, { S with objs := S.objs.set id (putCells cs off vs) }) else none
   | none => none
  | _ => none
 | .stb l n a v => match ev fr a with
  | .ptr id off => match S.objs[id]? with
   | some cs =>
    let vs := (ev fr v).cells
    if notAt fr l id = true ∧ vs.length = n ∧ off + n ≤ cs.length ∧ vs.all PV.one then some (.und, { S with objs := S.objs.set id (putCells cs off vs) }) else none
   | none => none
  | _ => none
 | .box ro x => if (ev fr x).cells.all PV.one then some (if ro then (.ref (ev fr x).cells, S) else newObj S (ev fr x).cells) else none
 | .alloc ro z => if z.all PV.one then some (if ro then (.ref z, S) else newObj S z) else none
 | .bsl ro ze len parts => match elems fr ze len parts with
  | some es => some (if ro then (.sl none es [], S) else newArr S ze.cells.length es)
  | none => none
 | .app sz bytes s x => match appendedS S sz (ev fr x) with
  | some new => if 0 < sz then appendTo sz bytes S (ev fr s) new else none
  | none => none
 | .gapp sz bytes s x => match appendedS S sz (ev fr x) with
  | some new => if 0 < sz then gappTo sz bytes S (ev fr s) new else none
  | none => none
 | .toStrO x => match ev fr x with
  | .osl id off len sz => (match S.objs[id]? with
   | some cs => if sz = 1 ∧ off + len ≤ cs.length then (match bytesOf ((cs.drop off).take len) with | some s => some (.str s, S) | none => none) else none
   | none => none)
  | .nils => some (.str [], S)
  | .emp => some (.str [], S)
  | .sl _ es _ => (match bytesOf es with | some s => some (.str s, S) | none => none)
  | _ => none
 | .emp0 => some (.emp, S)
 | .gclr sz z x => match ev fr x with
  | .osl id off len sz' => (match S.objs[id]? with
   | some cs => if sz' = sz ∧ 0 < sz ∧ z.length = sz ∧ z.all PV.one ∧ off + len * sz ≤ cs.length then some (.tup [], { S with objs := S.objs.set id (putCells cs off (List.replicate len z).flatten) }) else none
   | none => none)
  | _ => none
 | .toBytes ro x => match ev fr x with | .str s => some (if ro then (.sl none (ofBytes s) [], S) else newArr S 1 (ofBytes s)) | _ => none
 | .mks sz bytes c => match ev fr c with
  | .int .i64 n => if 0 ≤ n ∧ n * bytes ≤ 140737488355328 ∧ 0 < sz ∧ 0 < bytes then some (newArr S sz []) else none
  | _ => none
 | .call m f args => aCall call m f (args.map (ev fr)) S
 | .callv m x args => match ev fr x with
  | .fn f caps => aCall call m f (args.map (ev fr) ++ caps) S
  | .bfn f first => aCall call m f (first ++ args.map (ev fr)) S
  | _ => none
 | .inv cm m x args => match ev fr x with
  | .iface t v => match T.meth t m with
   | some f => aCall call cm f (v :: args.map (ev fr)) S
   | none => none
  | _ => none
 | .wc .. => none
 | .pan _ => none
 | .rcv => none
 | .bad => none
 | o => withSt S (peval fr o)

def wantedP (fr : Fr) : Option (Nat × Bool) → Option Bool
 | none => some true
 | some (t, b) => match fr t with
  | .bool c => some (c == b)
  | .tup [] => some false
  | _ => none

def pops (T : Tbl) (call : CallP) : List POper → Fr → St → Option (Fr × St)
 | [], fr, S => some (fr, S)
 | o :: rest, fr, S =>
  match wantedP fr o.guard with
  | none => none
  | some false => pops T call rest (updO fr o.dst (.tup [])) S
  | some true => match pstep T call fr S o.op with
   | some (v, S') => pops T call rest (updO fr o.dst v) S'
   | none => none

inductive Ex where
 | norm
 | exit (n : Nat)
 | ret

def rngRun (iter : PV → PV → Fr → St → Option (Fr × St)) : List (PV × PV) → Fr → St → Option (Fr × St)
 | [], fr, S => some (fr, S)
 | (k, v) :: r, fr, S => match iter k v fr S with
  | some (fr', S') => rngRun iter r fr' S'
  | none => none
def entsOf : List PV → List (PV × PV)
 | k :: v :: r => (k, v) :: entsOf r
 | _ => []
open Classical in
noncomputable def rngAll (iter : PV → PV → Fr → St → Option (Fr × St)) (l : List (PV × PV)) (fr : Fr) (S : St) : Option (Fr × St) :=
 match rngRun iter l fr S with
 | some r => if l.length ≤ 1 then some r else if ∀ p : List (PV × PV), p.Perm l → rngRun iter p fr S = some r then some r else none
 | none => none
def rngIt (T : Tbl) (call : CallP) (run : Fr → St → Option (Ex × Fr × St)) (id : Nat) (cs : List PV) (en : Nat) (post : List POper) (l : List (Nat × Nat)) (k v : PV) (fr : Fr) (S : St) : Option (Fr × St) :=
 match pops T call post (updO fr (some en) (.tup [k, v])) S with
 | some (fr2, S2) => (match run fr2 S2 with
  | some (.norm, fr3, S3) => (match S3.objs[id]? with
   | some ds => if PV.beqL ds cs then some (clrs l fr3, S3) else none
   | none => none)
  | _ => none)
 | none => none
noncomputable def rngRest (T : Tbl) (call : CallP) (run : Fr → St → Option (Ex × Fr × St)) (x : Opd) (en : Nat) (post : List POper) (l : List (Nat × Nat)) (fr : Fr) (S : St) : Option (Fr × St) :=
 match ev fr x with
 | .map id => (match S.objs[id]? with
  | some cs => rngAll (rngIt T call run id cs en post l) (entsOf cs) (clrs l fr) S
  | none => none)
 | _ => none

noncomputable def pcode (T : Tbl) (call : CallP) : Nat → PCode → Fr → St → Option (Ex × Fr × St)
 | 0, _, _, _ => none
 | _ + 1, .skip, fr, S => some (.norm, fr, S)
 | _ + 1, .ret, fr, S => some (.ret, fr, S)
 | _ + 1, .exit n, fr, S => some (.exit n, fr, S)
 | _ + 1, .region ops, fr, S => match pops T call ops fr S with | some (fr', S') => some (.norm, fr', S') | none => none
 | k + 1, .seq a b, fr, S => match pcode T call k a fr S with
  | some (.norm, fr', S') => pcode T call k b fr' S'
  | r => r
 | k + 1, .cond c t e, fr, S => match ev fr c with
  | .bool true => pcode T call k t fr S
  | .bool false => pcode T call k e fr S
  | _ => none
 | k + 1, .block n b, fr, S => match pcode T call k b fr S with
  | some (.exit m, fr', S') => if m = n then some (.norm, fr', S') else some (.exit m, fr', S')
  | r => r
 | k + 1, .loop b, fr, S => match pcode T call k b fr S with
  | some (.norm, fr', S') => pcode T call k (.loop b) fr' S'
  | r => r
 | k + 1, .scope b, fr, S => pcode T call k b fr S
 | k + 1, .clr l b, fr, S => match pcode T call k b fr S with
  | some (.norm, fr', S') => some (.norm, clrs l fr', S')
  | r => r
 | k + 1, .rng pre x en post l b, fr, S => match pops T call pre fr S with
  | some (fr1, S1) => (match rngRest T call (fun fr S => pcode T call k b fr S) x en post l fr1 S1 with
   | some (fr', S') => some (.norm, fr', S')
   | none => none)
  | none => none
 | _ + 1, .bad, _, _ => none

def argsFr (args : List PV) : Fr := fun t => (args[t]?).getD .und

def resOf (fr : Fr) (S : St) : PRes → Option PV
 | .tmp t => some (fr t)
 | .cell t ag n => match fr t with
  | .ref cs => partOf ag n cs
  | .ptr id off => match S.objs[id]? with
   | some cs => partOf ag n (cs.drop off)
   | none => none
  | _ => none

def resAll (fr : Fr) (S : St) : List PRes → Option (List PV)
 | [] => some []
 | r :: l => match resOf fr S r, resAll fr S l with
  | some v, some vs => some (v :: vs)
  | _, _ => none

def packed : List PV → PV
 | [v] => v
 | vs => .tup vs

def freeLL : List (List PV) → Bool
 | [] => true
 | a :: l => PV.freeL a && freeLL l

def finish (raw : Bool) (S0 S1 : St) (r : PV) : PV × St :=
 if raw then (r, S1) else
 match sol S1.objs S0.objs.length solFuel r with
 | none => (r, S1)
 | some r' =>
  if PV.beqLL (S1.objs.take S0.objs.length) S0.objs then (r'.frz, ⟨S0.objs, S1.tips.take S0.tips.length⟩)
  else if freeLL (S1.objs.take S0.objs.length) then (r', ⟨S1.objs.take S0.objs.length, S1.tips⟩)
  else (r, S1)

def indexByteP : List PV → Option PV
 | [.str s, .int .u8 c] => some (.int .i64 (match (List.range s.length).find? (fun i => (s.getD i 0) == UInt8.ofNat c.toNat) with | some i => (i : Int) | none => -1))
 | _ => none

def joinB (sep : List UInt8) : List (List UInt8) → List UInt8
 | [] => []
 | [x] => x
 | x :: y :: r => x ++ sep ++ joinB sep (y :: r)

def strsOf : List PV → Option (List (List UInt8))
 | [] => some []
 | .str s :: l => match strsOf l with | some r => some (s :: r) | none => none
 | _ => none

def joinP : List PV → Option PV
 | [.nils, .str _] => some (.str [])
 | [.sl _ es _, .str sep] => match strsOf es with
  | some xs => if xs.length ≤ 140737488355328 ∧ (joinB sep xs).length ≤ 140737488355328 then some (.str (joinB sep xs)) else none
  | none => none
 | _ => none

def isCodeF : Option PFn → Bool
 | some (.code _) => true
 | _ => false

noncomputable def pseq (T : Tbl) (call : CallP) (k : Nat) : List PCode → Fr → St → Option (Fr × St)
 | [], fr, S => some (fr, S)
 | p :: ps, fr, S => match pcode T call k p fr S with
  | some (.norm, fr1, S1) => pseq T call k ps fr1 S1
  | _ => none

noncomputable def plast (call : CallP) (cf : Nat) (caps : List PV) (fr : Fr) (S : St) : Option (Fr × St) :=
 match call cf caps S with
 | some (_, S') => some (fr, S')
 | none => none

noncomputable def pdef (T : Tbl) (call : CallP) (k : Nat) (f : PDef) (fr : Fr) (S : St) : Option (Fr × St) :=
 match pseq T call k f.pre fr S with
 | none => none
 | some (fr1, S1) => match pops T call [f.clo] fr1 S1 with
  | none => none
  | some (fr2, S2) => match fr2 f.t with
   | .fn cf caps => if isCodeF (T.fn cf) then (match pcode T call k f.rest fr2 S2 with
    | some (.norm, fr3, S3) => plast call cf caps fr3 S3
    | some (.ret, fr3, S3) => plast call cf caps fr3 S3
    | _ => none) else none
   | _ => none

noncomputable def pcall (T : Tbl) : Nat → CallP
 | 0, _, _, _ => none
 | k + 1, g, args, S => match T.fn g with
  | none => none
  | some .indexByte => match indexByteP args with | some v => some (v, S) | none => none
  | some (.ext e) => match e args with | some v => some (v, S) | none => none
  | some (.exs e) => e args S
  | some (.codeD f) =>
   if args.length = f.params then
    match pdef T (pcall T k) k f (argsFr args) S with
    | some (fr, S') => (match resAll fr S' f.results with | some vs => some (finish f.raw S S' (packed vs)) | none => none)
    | none => none
   else none
  | some (.code f) =>
   if args.length = f.params then
    match pcode T (pcall T k) k f.body (argsFr args) S with
    | some (.norm, fr, S') => (match resAll fr S' f.results with | some vs => some (finish f.raw S S' (packed vs)) | none => none)
    | some (.ret, fr, S') => (match resAll fr S' f.results with | some vs => some (finish f.raw S S' (packed vs)) | none => none)
    | _ => none
   else none
end Ps
