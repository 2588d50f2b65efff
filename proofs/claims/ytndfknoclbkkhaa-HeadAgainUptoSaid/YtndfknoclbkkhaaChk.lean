/- Does a pure text say what the model's text says? A check that the kernel runs. -/
import Derived.Test.YtndfknoclbkkhaaRel
namespace Ps
open Go
def constOk : Value → PV → Bool
  | .int k n, .int l m => k == l && n == m
  | .bool a, .bool b => a == b
  | .string s, .str t => s.data.toList == t
  | .pointer none, .nilp => true
  | .slice none l c, .nils => l == 0 && c == 0
  | .nilIface, .nili => true
  | .nilFunc, .nilf => true
  | .map none, .nilm => true
  | _, _ => false

def constsOk : List Value → List PV → Bool
  | [], [] => true
  | v :: l, c :: m => constOk v c && constsOk l m
  | _, _ => false

def zeroOk : Value → PV → Bool
  | .agg vs, .agg cs => constsOk vs.toList cs
  | v, c => constOk v c

def chkOpd (X : Tie) : Operand → Opd → Bool
  | .tmp t, .tmp s => t == s
  | .const v, .cst c => constOk v c
  | .func f, .cst (.fn g []) => X.fnOf g == f
  | _, _ => false

def chkOpdO (X : Tie) : Option Operand → Option Opd → Bool
  | none, none => true
  | some x, some y => chkOpd X x y
  | _, _ => false

def chkOpds (X : Tie) : List Operand → List Opd → Bool
  | [], [] => true
  | x :: l, y :: m => chkOpd X x y && chkOpds X l m
  | _, _ => false

def isBoolT (P : Program) (t : TypeId) : Bool := match P.underlying t with | some .bool => true | _ => false
def isStrT (P : Program) (t : TypeId) : Bool := match P.underlying t with | some .string => true | _ => false
def isIntT (P : Program) (t : TypeId) (k : IntKind) : Bool := match P.underlying t with | some (.int j) => j == k | _ => false
def isSlT (P : Program) (t : TypeId) (sz : Nat) : Bool :=
  match P.underlying t with | some (.slice e) => (match P.info? e with | some i => i.size == sz | none => false) | _ => false
def isArrT (P : Program) (t : TypeId) (len sz : Nat) : Bool :=
  match P.underlying t with | some (.array n e) => n == len && (match P.info? e with | some i => i.size == sz | none => false) | _ => false
def isAggT (P : Program) (t : TypeId) (ag : Bool) (n : Nat) : Bool :=
  (match P.underlying t with | some (.struct _) | some (.array _ _) => ag | some _ => !ag | none => false) &&
  (match P.info? t with | some i => i.size == n | none => false) && (ag || n == 1)
def notIfT (P : Program) (t : TypeId) : Bool := match P.underlying t with | some (.interface _) => false | some _ => true | none => false
def nilOk (P : Program) (t : TypeId) : NK → Operand → Bool
  | .p, .const (.pointer none) => (match P.underlying t with | some (.pointer _) => true | _ => false)
  | .s, .const (.slice none _ _) => (match P.underlying t with | some (.slice _) => true | _ => false)
  | .i, .const .nilIface => (match P.underlying t with | some (.interface _) => true | _ => false)
  | .f, .const .nilFunc => (match P.underlying t with | some (.func ..) => true | _ => false)
  | .m, .const (.map none) => (match P.underlying t with | some (.map ..) => true | _ => false)
  | _, _ => false
def scalArr (P : Program) (t : TypeId) (isb : Bool) (n : Nat) : Bool :=
  match P.underlying t with
  | some (.array m e) => m == n && (match P.info? e with | some i => i.size == 1 | none => false) &&
    (match P.underlying e with | some .bool => isb | some (.int _) => !isb | _ => false) && !P.eqGuardType P.depth t
  | _ => false

def flatFs (P : Program) (g : TypeId → Nat → Bool) : List Field → Nat → Nat → Bool
  | [], off, n => off == n
  | f :: l, off, n => f.name != "_" && f.offset == off && (match P.info? f.type with | some i => g f.type i.size && flatFs P g l (off + i.size) n | none => false)
def flatI (P : Program) : Nat → TypeId → Nat → Bool
  | 0, _, _ => false
  | d + 1, t, n => match P.underlying t with
    | some (.int _) => n == 1
    | some (.struct fs) => !P.stoodInHeld t && flatFs P (flatI P d) fs.toList 0 n
    | _ => false
def intStr (P : Program) (t : TypeId) (n : Nat) : Bool := (match P.underlying t with | some (.struct _) => true | _ => false) && flatI P 6 t n && !P.eqGuardType P.depth t

def zeroT (P : Program) (t : TypeId) (c : PV) : Bool :=
  match P.info? t with | some i => (match i.zero with | some z => zeroOk z c | none => false) | none => false
def zeroCellsT (P : Program) (t : TypeId) (cs : List PV) : Bool :=
  match P.info? t with | some i => (match i.zero with | some z => constsOk z.cells.toList cs | none => false) | none => false

def chkMov (X : Tie) (y : Opd) : Go.Op → Bool
  | .move x => chkOpd X x y
  | .assign x => chkOpd X x y
  | .call c => (match c.callee, c.args.toList, c.argTypes.toList, y with
    | .builtin .len, [_], [t], .cst (.int .i64 n) => (match X.P.underlying t with | some (.array m _) => n == m | _ => false)
    | _, _, _, _ => false)
  | _ => false

def eqOp (neg : Bool) : BinOp := if neg then .neq else .eql

def chkParts (X : Tie) (places : List (Nat × Nat)) : List (Nat × Operand) → List (Nat × Nat × Opd) → Bool
  | [], [] => true
  | (i, x) :: l, (off, n, y) :: m => places[i]? == some (off, n) && chkOpd X x y && chkParts X places l m
  | _, _ => false

def placesOf (P : Program) (t : TypeId) : Option (List (Nat × Nat)) :=
  match P.underlying t with
  | some (.struct fs) => fs.toList.mapM fun f => (P.info? f.type).map fun i => (f.offset, i.size)
  | _ => none

def chkArrParts (X : Tie) (sz : Nat) : List (Nat × Operand) → List (Nat × Nat × Opd) → Bool
  | [], [] => true
  | (i, x) :: l, (off, n, y) :: m => off == i * sz && n == sz && chkOpd X x y && chkArrParts X sz l m
  | _, _ => false

def chkElems (X : Tie) : List (Nat × Operand) → List (Nat × Opd) → Bool
  | [], [] => true
  | (i, x) :: l, (j, y) :: m => i == j && chkOpd X x y && chkElems X l m
  | _, _ => false

def mapKT (P : Program) (t : TypeId) (ks : Bool) : Bool :=
  match P.underlying t with
  | some (.map k _) => (match P.underlying k with | some .string => ks | some (.int _) => !ks | _ => false)
  | _ => false
def mapZT (P : Program) (t : TypeId) (z : PV) : Bool := match P.underlying t with | some (.map _ e) => zeroT P e z | _ => false

def hasBody (P : Program) (f : FuncId) : Bool := match P.funcs[f]? with | some fn => fn.body.isSome && fn.name != "runtime.NumGoroutine" | none => false

def chkOp (X : Tie) (op : Go.Op) : POp → Bool
  | .mov y => chkMov X y op
  | .pick c a b => (match op with | .pick c' a' b' => chkOpd X c' c && chkOpd X a' a && chkOpd X b' b | _ => false)
  | .nilck x => (match op with | .nilCheck y => chkOpd X y x | _ => false)
  | .arith o x y => (match op with | .binOp p _ a b _ => p == o && chkOpd X a x && chkOpd X b y | _ => false)
  | .eqb neg x y => (match op with | .binOp p t a b _ => p == eqOp neg && isBoolT X.P t && chkOpd X a x && chkOpd X b y | _ => false)
  | .eqn neg k x => (match op with | .binOp p t a b _ => p == eqOp neg && nilOk X.P t k b && chkOpd X a x | _ => false)
  | .eqa neg isb n x y => (match op with | .binOp p t a b _ => p == eqOp neg && scalArr X.P t isb n && chkOpd X a x && chkOpd X b y | _ => false)
  | .eqs neg n x y => (match op with | .binOp p t a b _ => p == eqOp neg && intStr X.P t n && chkOpd X a x && chkOpd X b y | _ => false)
  | .un o x => (match op with | .unOp p _ y => p == o && chkOpd X y x | _ => false)
  | .toInt k x => (match op with | .convert s d y => (X.P.underlying s).isSome && isIntT X.P d k && chkOpd X y x | _ => false)
  | .strId x => (match op with | .convert s d y => (X.P.underlying s).isSome && isStrT X.P d && chkOpd X y x | _ => false)
  | .toStr x => (match op with
    | .convert s d y => (match X.P.underlying s with | some (.slice e) => isIntT X.P e .u8 && (match X.P.info? e with | some i => i.size == 1 | none => false) | _ => false) && isStrT X.P d && chkOpd X y x
    | _ => false)
  | .field ag off n x => (match op with
    | .field t y f => (match X.P.underlying t with | some (.struct fs) => (match fs[f]? with | some g => g.offset == off && isAggT X.P g.type ag n | none => false) | _ => false) && chkOpd X y x
    | _ => false)
  | .build z parts => (match op with
    | .build t ps => zeroCellsT X.P t z &&
      (match X.P.underlying t with
       | some (.struct _) => (match placesOf X.P t with | some places => chkParts X places ps.toList parts | none => false)
       | some (.array _ e) => (match X.P.info? e with | some i => chkArrParts X i.size ps.toList parts | none => false)
       | _ => false)
    | _ => false)
  | .mkif t x => (match op with | .makeInterface u y => X.ty t == u && notIfT X.P u && chkOpd X y x | _ => false)
  | .mkfn f caps => (match op with | .makeFunc (.func g) first cs => X.fnOf f == g && first.size == 0 && chkOpds X cs.toList caps | _ => false)
  | .extract i x => (match op with | .extract y j => i == j && chkOpd X y x | _ => false)
  | .assert t ok z x => (match op with | .typeAssert y _ u k => X.ty t == u && ok == k && notIfT X.P u && zeroT X.P u z && chkOpd X y x | _ => false)
  | .idxs x i => (match op with | .index t y j => isStrT X.P t && chkOpd X y x && chkOpd X j i | _ => false)
  | .idxa len n ag x i => (match op with
    | .index t y j => (match X.P.underlying t with | some (.array m e) => m == len && isAggT X.P e ag n | _ => false) && chkOpd X y x && chkOpd X j i
    | _ => false)
  | .slcs lo hi x => (match op with | .slice t y l h none => isStrT X.P t && chkOpd X y x && chkOpdO X l lo && chkOpdO X h hi | _ => false)
  | .slc sz lo hi x => (match op with | .slice t y l h none => isSlT X.P t sz && chkOpd X y x && chkOpdO X l lo && chkOpdO X h hi | _ => false)
  | .slca len sz lo hi x => (match op with | .slice t y l h none => isArrT X.P t len sz && chkOpd X y x && chkOpdO X l lo && chkOpdO X h hi | _ => false)
  | .faddr off x => (match op with
    | .fieldAddr t y f => (match X.P.underlying t with
      | some (.struct fs) => (match fs[f]? with | some g => g.offset == off && (match X.P.info? g.type with | some i => i.size != 0 | none => false) | none => false)
      | _ => false) && chkOpd X y x
    | _ => false)
  | .iaddr sz x i => (match op with | .indexAddr t y j => isSlT X.P t sz && chkOpd X y x && chkOpd X j i | _ => false)
  | .iaddra len sz x i => (match op with | .indexAddr t y j => isArrT X.P t len sz && chkOpd X y x && chkOpd X j i | _ => false)
  | .len st x => (match op with
    | .call c => (match c.callee, c.args.toList, c.argTypes.toList with
      | .builtin .len, [y], [t] => (match X.P.underlying t with | some .string => st | some (.slice _) => !st | _ => false) && chkOpd X y x
      | _, _, _ => false)
    | _ => false)
  | .mnmx mx x y => (match op with
    | .call c => (match c.callee, c.args.toList with
      | .builtin .max, [a, b] => mx && chkOpd X a x && chkOpd X b y
      | .builtin .min, [a, b] => !mx && chkOpd X a x && chkOpd X b y
      | _, _ => false)
    | _ => false)
  | .load ag n _ x => (match op with | .load t y => isAggT X.P t ag n && chkOpd X y x | _ => false)
  | .loadb _ ag n x => (match op with | .load t y => isAggT X.P t ag n && chkOpd X y x | _ => false)
  | .store n a v => (match op with | .store t b u => (match X.P.info? t with | some i => i.size == n | none => false) && chkOpd X b a && chkOpd X u v | _ => false)
  | .box _ x => (match op with | .box _ y => chkOpd X y x | _ => false)
  | .alloc _ z => (match op with | .alloc t => zeroCellsT X.P t z | _ => false)
  | .bsl _ ze len parts => (match op with
    | .buildSlice t n ps => (match X.P.underlying t with
      | some (.slice e) => n == len && zeroT X.P e ze && (match X.P.info? e with | some i => i.size == ze.cells.length | none => false) && chkElems X ps.toList parts
      | _ => false)
    | _ => false)
  | .app sz bytes s x => (match op with
    | .call c => (match c.callee, c.args.toList, c.argTypes.toList with
      | .builtin .append, [a, b], [t, u] => (match X.P.underlying t with
        | some (.slice e) => (match X.P.info? e with | some i => i.size == sz && i.bytes == bytes && bytes != 0 && i.zero.isSome && (match i.zero with | some z => z.cells.size == sz | none => false) | none => false) &&
          (match X.P.underlying u with | some (.slice _) | some .string => true | _ => false)
        | _ => false) && chkOpd X a s && chkOpd X b x
      | _, _, _ => false)
    | _ => false)
  | .gapp sz bytes s x => (match op with
    | .call c => (match c.callee, c.args.toList, c.argTypes.toList with
      | .builtin .append, [a, b], [t, u] => (match X.P.underlying t with
        | some (.slice e) => (match X.P.info? e with | some i => i.size == sz && i.bytes == bytes && bytes != 0 && i.zero.isSome && (match i.zero with | some z => z.cells.size == sz | none => false) | none => false) &&
          (match X.P.underlying u with | some (.slice _) | some .string => true | _ => false)
        | _ => false) && chkOpd X a s && chkOpd X b x
      | _, _, _ => false)
    | _ => false)
  | .toStrO x => (match op with
    | .convert s d y => (match X.P.underlying s with | some (.slice e) => isIntT X.P e .u8 && (match X.P.info? e with | some i => i.size == 1 | none => false) | _ => false) && isStrT X.P d && chkOpd X y x
    | _ => false)
  | .emp3 x => (match op with
    | .slice t y none (some (.const (.int .i64 0))) (some (.const (.int .i64 0))) => (match X.P.underlying t with | some (.slice e) => (X.P.info? e).isSome | _ => false) && chkOpd X y x
    | _ => false)
  | .emp0 => (match op with
    | .buildSlice t 0 ps => (match X.P.underlying t with
      | some (.slice e) => (match X.P.info? e with | some i => i.size != 0 | none => false) && ps.isEmpty
      | _ => false)
    | _ => false)
  | .gclr sz z x => (match op with
    | .call c => (match c.callee, c.args.toList, c.argTypes.toList with
      | .builtin .clear, [y], [t] => (match X.P.underlying t with
        | some (.slice e) => (match X.P.info? e with | some i => i.size == sz | none => false) && zeroCellsT X.P e z
        | _ => false) && chkOpd X y x
      | _, _, _ => false)
    | _ => false)
  | .toBytes _ x => (match op with
    | .convert s d y => (X.P.underlying s).isSome && (match X.P.underlying d with | some (.slice e) => isIntT X.P e .u8 | _ => false) && chkOpd X y x
    | _ => false)
  | .mks sz bytes c => (match op with
    | .makeSlice t (.const (.int .i64 0)) k => (match X.P.underlying t with
      | some (.slice e) => (match X.P.info? e with | some i => i.size == sz && i.bytes == bytes && (match i.zero with | some z => z.cells.size == sz | none => false) | none => false)
      | _ => false) && chkOpd X k c
    | _ => false)
  | .mkm => (match op with | .makeMap _ none => true | _ => false)
  | .mlk ks ok z x k => (match op with | .lookup t y j o => ok == o && mapKT X.P t ks && mapZT X.P t z && chkOpd X y x && chkOpd X j k | _ => false)
  | .mset ks x k v => (match op with | .mapUpdate t y j u => mapKT X.P t ks && chkOpd X y x && chkOpd X j k && chkOpd X u v | _ => false)
  | .mdel ks x k => (match op with
    | .call c => (match c.callee, c.args.toList, c.argTypes.toList with
      | .builtin .delete, [y, j], [t, _] => mapKT X.P t ks && chkOpd X y x && chkOpd X j k
      | _, _, _ => false)
    | _ => false)
  | .mlen x => (match op with
    | .call c => (match c.callee, c.args.toList, c.argTypes.toList with
      | .builtin .len, [y], [t] => (match X.P.underlying t with | some (.map _ _) => true | _ => false) && chkOpd X y x
      | _, _, _ => false)
    | _ => false)
  | .slc3 sz lo hi mx x => (match op with | .slice t y l (some h) (some m) => isSlT X.P t sz && chkOpd X y x && chkOpdO X l lo && chkOpd X h hi && chkOpd X m mx | _ => false)
  | .mkbfn f first => (match op with | .makeFunc (.func g) fs cs => X.fnOf f == g && cs.size == 0 && chkOpds X fs.toList first | _ => false)
  | .call _ f args => (match op with
    | .call c => (match c.callee with | .value (.func g) => X.fnOf f == g | _ => false) && chkOpds X c.args.toList args
    | _ => false)
  | .callb _ f args => (match op with
    | .call c => (match c.callee with | .value (.func g) => X.fnOf f == g | _ => false) && chkOpds X c.args.toList args
    | _ => false)
  | .callv _ x args => (match op with
    | .call c => (match c.callee with | .value y => chkOpd X y x | _ => false) && chkOpds X c.args.toList args
    | _ => false)
  | .inv _ m x args => (match op with
    | .call c => (match c.callee with | .invoke y name => X.mn m == name && chkOpd X y x | _ => false) && chkOpds X c.args.toList args
    | _ => false)
  | .bad => true
end Ps
