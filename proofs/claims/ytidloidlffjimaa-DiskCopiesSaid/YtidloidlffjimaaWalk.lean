/- Rules for walking a function by rewriting. -/
import Derived.Test.YtidloidlffjimaaGo
namespace Ps
open Go
theorem ops_go {l m : List POper} (h : l = m) (T : Tbl) (K : List Kt) (fr : Fr) (S : St) : gval T (.ops l :: K) fr S = gval T (.ops m :: K) fr S := by rw [h]
theorem code_go {l m : PCode} (h : l = m) (T : Tbl) (K : List Kt) (fr : Fr) (S : St) : gval T (.code l :: K) fr S = gval T (.code m :: K) fr S := by rw [h]
abbrev V (n : Nat) : Opd := .tmp n
abbrev I (n : Int) : Opd := .cst (.int .i64 n)
abbrev tt' : Opd := .cst (.bool true)
abbrev ff' : Opd := .cst (.bool false)
abbrev Q (d : Nat) (op : POp) : POper := ⟨some d, op, none⟩
abbrev QN (op : POp) : POper := ⟨none, op, none⟩
abbrev QG (d : Option Nat) (op : POp) (t : Nat) (b : Bool) : POper := ⟨d, op, some (t, b)⟩
abbrev M (d s : Nat) : POper := ⟨some d, .mov (.tmp s), none⟩
abbrev NK' (d s : Nat) : POper := ⟨some d, .nilck (.tmp s), none⟩
abbrev FA (d k s : Nat) : POper := ⟨some d, .faddr k (.tmp s), none⟩
abbrev LD (d s : Nat) : POper := ⟨some d, .load false 1 false (.tmp s), none⟩
abbrev EX (d k s : Nat) : POper := ⟨some d, .extract k (.tmp s), none⟩

@[simp] theorem cells_und  : PV.und.cells = [PV.und] := rfl
@[simp] theorem one_und  : PV.und.one = false := rfl
@[simp] theorem cells_int (k : IntKind) (n : Int) : (PV.int k n).cells = [(PV.int k n)] := rfl
@[simp] theorem one_int (k : IntKind) (n : Int) : (PV.int k n).one = true := rfl
@[simp] theorem cells_bool (b : Bool) : (PV.bool b).cells = [(PV.bool b)] := rfl
@[simp] theorem one_bool (b : Bool) : (PV.bool b).one = true := rfl
@[simp] theorem cells_str (s : List UInt8) : (PV.str s).cells = [(PV.str s)] := rfl
@[simp] theorem one_str (s : List UInt8) : (PV.str s).one = true := rfl
@[simp] theorem cells_nilp  : PV.nilp.cells = [PV.nilp] := rfl
@[simp] theorem one_nilp  : PV.nilp.one = true := rfl
@[simp] theorem cells_nils  : PV.nils.cells = [PV.nils] := rfl
@[simp] theorem one_nils  : PV.nils.one = true := rfl
@[simp] theorem cells_nili  : PV.nili.cells = [PV.nili] := rfl
@[simp] theorem one_nili  : PV.nili.one = true := rfl
@[simp] theorem cells_nilf  : PV.nilf.cells = [PV.nilf] := rfl
@[simp] theorem one_nilf  : PV.nilf.one = true := rfl
@[simp] theorem cells_ptr (i o : Nat) : (PV.ptr i o).cells = [(PV.ptr i o)] := rfl
@[simp] theorem one_ptr (i o : Nat) : (PV.ptr i o).one = true := rfl
@[simp] theorem cells_ref (cs : List PV) : (PV.ref cs).cells = [(PV.ref cs)] := rfl
@[simp] theorem one_ref (cs : List PV) : (PV.ref cs).one = true := rfl
@[simp] theorem cells_sl (t : Option (Nat × Nat)) (a b : List PV) : (PV.sl t a b).cells = [(PV.sl t a b)] := rfl
@[simp] theorem one_sl (t : Option (Nat × Nat)) (a b : List PV) : (PV.sl t a b).one = true := rfl
@[simp] theorem cells_osl (i o n s : Nat) : (PV.osl i o n s).cells = [(PV.osl i o n s)] := rfl
@[simp] theorem one_osl (i o n s : Nat) : (PV.osl i o n s).one = true := rfl
@[simp] theorem cells_emp : PV.emp.cells = [PV.emp] := rfl
@[simp] theorem one_emp : PV.emp.one = true := rfl
@[simp] theorem cells_iface (t : Nat) (v : PV) : (PV.iface t v).cells = [(PV.iface t v)] := rfl
@[simp] theorem one_iface (t : Nat) (v : PV) : (PV.iface t v).one = true := rfl
@[simp] theorem cells_agg (cs : List PV) : (PV.agg cs).cells = cs := rfl
@[simp] theorem one_agg (cs : List PV) : (PV.agg cs).one = false := rfl
@[simp] theorem cells_tup (cs : List PV) : (PV.tup cs).cells = [(PV.tup cs)] := rfl
@[simp] theorem one_tup (cs : List PV) : (PV.tup cs).one = false := rfl
@[simp] theorem cells_fn (f : Nat) (cs : List PV) : (PV.fn f cs).cells = [(PV.fn f cs)] := rfl
@[simp] theorem one_fn (f : Nat) (cs : List PV) : (PV.fn f cs).one = true := rfl
@[simp] theorem cells_nilm : PV.nilm.cells = [PV.nilm] := rfl
@[simp] theorem one_nilm : PV.nilm.one = true := rfl
@[simp] theorem cells_hnd (i : Nat) : (PV.hnd i).cells = [(PV.hnd i)] := rfl
@[simp] theorem one_hnd (i : Nat) : (PV.hnd i).one = true := rfl
@[simp] theorem cells_map (i : Nat) : (PV.map i).cells = [(PV.map i)] := rfl
@[simp] theorem one_map (i : Nat) : (PV.map i).one = true := rfl
@[simp] theorem cells_bfn (f : Nat) (cs : List PV) : (PV.bfn f cs).cells = [(PV.bfn f cs)] := rfl
@[simp] theorem one_bfn (f : Nat) (cs : List PV) : (PV.bfn f cs).one = true := rfl
attribute [simp] PV.free PV.freeL PV.frz PV.frzL
mutual
theorem beq_rfl' : ∀ v : PV, PV.beq v v = true
 | .und => rfl
 | .int k n => by simp [PV.beq]
 | .bool b => by simp [PV.beq]
 | .str s => by simp [PV.beq]
 | .nilp => rfl
 | .nils => rfl
 | .nili => rfl
 | .nilf => rfl
 | .ptr i o => by simp [PV.beq]
 | .ref cs => by simp [PV.beq, beqL_rfl' cs]
 | .sl t a b => by simp [PV.beq, beqL_rfl' a, beqL_rfl' b]
 | .osl i o n s => by simp [PV.beq]
 | .emp => rfl
 | .iface t v => by simp [PV.beq, beq_rfl' v]
 | .agg cs => by simp [PV.beq, beqL_rfl' cs]
 | .tup cs => by simp [PV.beq, beqL_rfl' cs]
 | .fn f cs => by simp [PV.beq, beqL_rfl' cs]
 | .nilm => rfl
 | .map i => by simp [PV.beq]
 | .hnd i => by simp [PV.beq]
 | .bfn f cs => by simp [PV.beq, beqL_rfl' cs]
theorem beqL_rfl' : ∀ l : List PV, PV.beqL l l = true
 | [] => rfl
 | v :: l => by simp [PV.beqL, beq_rfl' v, beqL_rfl' l]
end
theorem beqLL_rfl' : ∀ l : List (List PV), PV.beqLL l l = true
 | [] => rfl
 | v :: l => by simp [PV.beqLL, beqL_rfl' v, beqLL_rfl' l]

def ob {α β : Type} : Option α → (α → Option β) → Option β
 | some x, f => f x
 | none, _ => none

@[simp] theorem ob_some {α β : Type} (x : α) (f : α → Option β) : ob (some x) f = f x := rfl
@[simp] theorem ob_none {α β : Type} (f : α → Option β) : ob none f = none := rfl
@[congr] theorem ob_congr {α β : Type} {a a' : Option α} {f : α → Option β} (h : a = a') : ob a f = ob a' f := by rw [h]
@[congr] theorem gval_congr {T : Tbl} {K : List Kt} {fr fr' : Fr} {S S' : St} (h1 : fr = fr') (h2 : S = S') : gval T K fr S = gval T K fr' S' := by rw [h1, h2]
@[congr] theorem br_congr {α : Type} {v v' : PV} {a b : Option α} (h : v = v') : br v a b = br v' a b := by rw [h]
@[congr] theorem grd_congr {α : Type} {v v' : PV} {c : Bool} {a b : Option α} (h : v = v') : grd v c a b = grd v' c a b := by rw [h]

@[simp] theorem upd_at' (fr : Fr) (d : Nat) (v : PV) (t : Nat) : upd fr d v t = cond (t == d) v (fr t) := rfl
@[simp] theorem clrs_nil (fr : Fr) : clrs [] fr = fr := rfl
@[simp] theorem clrs_cons (a b : Nat) (l : List (Nat × Nat)) (fr : Fr) : clrs ((a, b) :: l) fr = clrs l (clrI a b fr) := rfl
@[simp] theorem inI_eq (lo hi t : Nat) : inI lo hi t = ((lo - t == 0) && (t + 1 - hi == 0)) := rfl
@[simp] theorem clrI_at (lo hi : Nat) (fr : Fr) (t : Nat) : clrI lo hi fr t = cond (inI lo hi t) .und (fr t) := rfl
theorem clrI_upd (lo hi : Nat) (fr : Fr) (d : Nat) (v : PV) : clrI lo hi (upd fr d v) = cond (inI lo hi d) (clrI lo hi fr) (upd (clrI lo hi fr) d v) := by
 funext t
 cases h : (inI lo hi d) with
 | true =>
  simp only [cond_true, clrI, upd]
  cases h2 : (inI lo hi t) with
  | true => rfl
  | false =>
   have : (t == d) = false := by
    rw [Bool.eq_false_iff]; intro e; rw [beq_iff_eq] at e; subst e; rw [h] at h2; cases h2
   simp [this]
 | false =>
  simp only [cond_false, clrI, upd]
  cases h2 : (inI lo hi t) with
  | true =>
   have : (t == d) = false := by
    rw [Bool.eq_false_iff]; intro e; rw [beq_iff_eq] at e; subst e; rw [h] at h2; cases h2
   simp [this]
  | false => simp
@[simp] theorem clr_in (lo hi : Nat) (fr : Fr) (d : Nat) (v : PV) (h : (inI lo hi d) = true) : clrI lo hi (upd fr d v) = clrI lo hi fr := by rw [clrI_upd, h]; rfl
@[simp] theorem clr_out (lo hi : Nat) (fr : Fr) (d : Nat) (v : PV) (h : (inI lo hi d) = false) : clrI lo hi (upd fr d v) = upd (clrI lo hi fr) d v := by rw [clrI_upd, h]; rfl
@[simp] theorem clr_clr (lo hi : Nat) (fr : Fr) : clrI lo hi (clrI lo hi fr) = clrI lo hi fr := by
 funext t; simp only [clrI]; cases (inI lo hi t) <;> rfl
@[simp] theorem updO_some (fr : Fr) (d : Nat) (v : PV) : updO fr (some d) v = upd fr d v := rfl
@[simp] theorem updO_none (fr : Fr) (v : PV) : updO fr none v = fr := rfl
@[simp] theorem ev_tmp (fr : Fr) (t : Nat) : ev fr (.tmp t) = fr t := rfl
@[simp] theorem ev_cst (fr : Fr) (v : PV) : ev fr (.cst v) = v := rfl
@[simp] theorem evO_none (fr : Fr) : evO fr none = none := rfl
@[simp] theorem evO_some (fr : Fr) (x : Opd) : evO fr (some x) = some (ev fr x) := rfl

attribute [simp] gval_nil gval_skip gval_ret gval_exit gval_region gval_seq gval_block gval_loop gval_blk gval_scope gval_clr gval_clrs gval_ops_nil gval_cond br_true br_false exitKt
theorem grd_bool {α : Type} {a b : Option α} {c d : Bool} : grd (.bool c) d a b = if c = d then a else b := by cases c <;> cases d <;> rfl
@[simp] theorem grd_t {α : Type} {a b : Option α} {c : Bool} : grd (.bool c) true a b = br (.bool c) a b := by cases c <;> rfl
@[simp] theorem grd_f {α : Type} {a b : Option α} {c : Bool} : grd (.bool c) false a b = br (.bool c) b a := by cases c <;> rfl
@[simp] theorem grd_no {α : Type} {a b : Option α} {d : Bool} : grd (.tup []) d a b = b := rfl

def nilckP : PV → Option PV
 | .ptr i o => some (.ptr i o)
 | .ref cs => some (.ref cs)
 | .iface t v => some (.iface t v)
 | .fn f cs => some (.fn f cs)
 | .bfn f cs => some (.bfn f cs)
 | _ => none
def eqaP (neg isb : Bool) (n : Nat) : PV → PV → Option PV
 | .agg a, .agg b => if a.length = n ∧ b.length = n then (match eqCells isb a b with | some r => some (negIf neg r) | none => none) else none
 | _, _ => none
def toIntP (k : IntKind) : PV → Option PV
 | .int _ n => some (.int k (k.wrap n))
 | _ => none
def strIdP : PV → Option PV
 | .str s => some (.str s)
 | _ => none
def fieldP (ag : Bool) (off n : Nat) : PV → Option PV
 | .agg cs => partOf ag n (cs.drop off)
 | _ => none
def extractP (i : Nat) : PV → Option PV
 | .tup vs => vs[i]?
 | _ => none
def assertP (t : Nat) (ok : Bool) (z : PV) : PV → Option PV
 | .nili => if ok then some (.tup [z, .bool false]) else none
 | .iface u v => if u = t then some (if ok then .tup [v, .bool true] else v) else (if ok then some (.tup [z, .bool false]) else none)
 | _ => none
def idxsP : PV → PV → Option PV
 | .str s, .int _ j => if 0 ≤ j then (match s[j.toNat]? with | some b => some (.int .u8 b.toNat) | none => none) else none
 | _, _ => none
def idxaP (len n : Nat) (ag : Bool) : PV → PV → Option PV
 | .agg cs, .int _ j => if 0 ≤ j ∧ j < len then partOf ag n (cs.drop (j.toNat * n)) else none
 | _, _ => none
def slcsP (lo hi : Option PV) : PV → Option PV
 | .str s => match bounds s.length s.length lo hi with
  | some (l, h) => some (.str ((s.take h).drop l))
  | none => none
 | _ => none
def slcP (sz : Nat) (lo hi : Option PV) : PV → Option PV
 | .nils => match bounds 0 0 lo hi with | some _ => some .nils | none => none
 | .sl tip es sp => if !szOk sz (es ++ sp) then none else match bounds es.length (es.length + sp.length) lo hi with
  | some (l, h) => some (.sl (if h = es.length then tip else none) (((es ++ sp).take h).drop l) ((es ++ sp).drop h))
  | none => none
 | .osl id off len sz' => if sz' = sz ∧ 0 < sz then (match bounds len len lo hi with
  | some (l, h) => if l = 0 ∨ l < h then some (.osl id (off + l * sz) (h - l) sz) else none
  | none => none) else none
 | .emp => match bounds 0 0 lo hi with | some _ => some .emp | none => none
 | _ => none
def slcaP (len sz : Nat) (lo hi : Option PV) : PV → Option PV
 | .ptr id off => match bounds len len lo hi with
  | some (l, h) => if l < h then some (.osl id (off + l * sz) (h - l) 0) else none
  | none => none
 | .ref cs => if sz = 1 ∧ cs.length = len ∧ cs.all PV.one = true then (match bounds len len lo hi with
  | some (l, h) => if l < h then some (.sl none ((cs.take h).drop l) (cs.drop h)) else none
  | none => none) else none
 | _ => none
def faddrP (off : Nat) : PV → Option PV
 | .ptr id o => some (.ptr id (o + off))
 | .ref cs => if off ≤ cs.length then some (.ref (cs.drop off)) else none
 | _ => none
def iaddrP (sz : Nat) : PV → PV → Option PV
 | .sl _ es _, .int _ j => if 0 ≤ j then (match es[j.toNat]? with | some e => if e.cells.length = sz then some (.ref e.cells) else none | none => none) else none
 | .osl id off n _, .int _ j => if 0 ≤ j ∧ j < n then some (.ptr id (off + j.toNat * sz)) else none
 | _, _ => none
def iaddraP (len sz : Nat) : PV → PV → Option PV
 | .ptr id off, .int _ j => if 0 ≤ j ∧ j < len then some (.ptr id (off + j.toNat * sz)) else none
 | .ref cs, .int _ j => if 0 ≤ j ∧ j < len ∧ j.toNat * sz ≤ cs.length then some (.ref (cs.drop (j.toNat * sz))) else none
 | _, _ => none
def lenP (st : Bool) : PV → Option PV
 | .str s => if st then some (.int .i64 s.length) else none
 | .nils => if st then none else some (.int .i64 0)
 | .sl _ es _ => if st then none else some (.int .i64 es.length)
 | .osl _ _ n _ => if st then none else some (.int .i64 n)
 | .emp => if st then none else some (.int .i64 0)
 | _ => none
def mnmxP (mx : Bool) : PV → PV → Option PV
 | .int k a, .int l b => if k = l then some (.int k (if mx then (if b > a then b else a) else (if b < a then b else a))) else none
 | _, _ => none
@[simp] theorem nilckP_ptr {i o : Nat} : nilckP (.ptr i o) = some (.ptr i o) := rfl
@[simp] theorem nilckP_ref {cs : List PV} : nilckP (.ref cs) = some (.ref cs) := rfl
@[simp] theorem nilckP_iface {t : Nat} {v : PV} : nilckP (.iface t v) = some (.iface t v) := rfl
@[simp] theorem nilckP_fn {f : Nat} {cs : List PV} : nilckP (.fn f cs) = some (.fn f cs) := rfl
def eqsP (neg : Bool) (n : Nat) : PV → PV → Option PV
 | .agg a, .agg b => if a.length = n ∧ b.length = n then (match eqCells false a b with | some r => some (negIf neg r) | none => none) else none
 | _, _ => none
@[simp] theorem eqsP_agg {neg : Bool} {n : Nat} {a b : List PV} : eqsP neg n (.agg a) (.agg b) = if a.length = n ∧ b.length = n then (match eqCells false a b with | some r => some (negIf neg r) | none => none) else none := rfl
@[simp] theorem eqaP_agg {neg isb : Bool} {n : Nat} {a b : List PV} : eqaP neg isb n (.agg a) (.agg b) = if a.length = n ∧ b.length = n then (match eqCells isb a b with | some r => some (negIf neg r) | none => none) else none := rfl
@[simp] theorem toIntP_int {k l : IntKind} {n : Int} : toIntP k (.int l n) = some (.int k (k.wrap n)) := rfl
@[simp] theorem strIdP_str {s : List UInt8} : strIdP (.str s) = some (.str s) := rfl
@[simp] theorem fieldP_agg {ag : Bool} {off n : Nat} {cs : List PV} : fieldP ag off n (.agg cs) = partOf ag n (cs.drop off) := rfl
@[simp] theorem extractP_tup {i : Nat} {vs : List PV} : extractP i (.tup vs) = vs[i]? := rfl
@[simp] theorem assertP_nil {t : Nat} {ok : Bool} {z : PV} : assertP t ok z .nili = if ok then some (.tup [z, .bool false]) else none := rfl
@[simp] theorem assertP_iface {t u : Nat} {ok : Bool} {z v : PV} : assertP t ok z (.iface u v) = if u = t then some (if ok then .tup [v, .bool true] else v) else (if ok then some (.tup [z, .bool false]) else none) := rfl
@[simp] theorem idxsP_str {s : List UInt8} {k : IntKind} {j : Int} : idxsP (.str s) (.int k j) = if 0 ≤ j then (match s[j.toNat]? with | some b => some (.int .u8 b.toNat) | none => none) else none := rfl
@[simp] theorem idxaP_agg {len n : Nat} {ag : Bool} {cs : List PV} {k : IntKind} {j : Int} : idxaP len n ag (.agg cs) (.int k j) = if 0 ≤ j ∧ j < len then partOf ag n (cs.drop (j.toNat * n)) else none := rfl
@[simp] theorem slcsP_str {lo hi : Option PV} {s : List UInt8} : slcsP lo hi (.str s) = match bounds s.length s.length lo hi with | some (l, h) => some (.str ((s.take h).drop l)) | none => none := rfl
@[simp] theorem slcP_nils {sz : Nat} {lo hi : Option PV} : slcP sz lo hi .nils = match bounds 0 0 lo hi with | some _ => some .nils | none => none := rfl
@[simp] theorem slcP_sl {sz : Nat} {lo hi : Option PV} {tip : Option (Nat × Nat)} {es sp : List PV} : slcP sz lo hi (.sl tip es sp) = if !szOk sz (es ++ sp) then none else match bounds es.length (es.length + sp.length) lo hi with
   | some (l, h) => some (.sl (if h = es.length then tip else none) (((es ++ sp).take h).drop l) ((es ++ sp).drop h))
   | none => none := rfl
@[simp] theorem slcaP_ptr {len sz : Nat} {lo hi : Option PV} {id off : Nat} : slcaP len sz lo hi (.ptr id off) = match bounds len len lo hi with | some (l, h) => if l < h then some (.osl id (off + l * sz) (h - l) 0) else none | none => none := rfl
@[simp] theorem slcP_osl {sz : Nat} {lo hi : Option PV} {id off len : Nat} : slcP sz lo hi (.osl id off len sz) = if 0 < sz then (match bounds len len lo hi with
  | some (l, h) => if l = 0 ∨ l < h then some (.osl id (off + l * sz) (h - l) sz) else none
  | none => none) else none := by simp [slcP]
@[simp] theorem slcP_emp {sz : Nat} {lo hi : Option PV} : slcP sz lo hi .emp = match bounds 0 0 lo hi with | some _ => some .emp | none => none := rfl
def emp3P : PV → Option PV
 | .nils => some .nils
 | .sl .. => some .emp
 | .osl .. => some .emp
 | .emp => some .emp
 | _ => none
@[simp] theorem emp3P_nils : emp3P .nils = some .nils := rfl
@[simp] theorem emp3P_sl {t : Option (Nat × Nat)} {a b : List PV} : emp3P (.sl t a b) = some .emp := rfl
@[simp] theorem emp3P_osl {i o n s : Nat} : emp3P (.osl i o n s) = some .emp := rfl
@[simp] theorem emp3P_emp : emp3P .emp = some .emp := rfl
@[simp] theorem faddrP_ptr {off id o : Nat} : faddrP off (.ptr id o) = some (.ptr id (o + off)) := rfl
@[simp] theorem faddrP_ref {off : Nat} {cs : List PV} : faddrP off (.ref cs) = if off ≤ cs.length then some (.ref (cs.drop off)) else none := rfl
@[simp] theorem iaddrP_sl {sz : Nat} {tip : Option (Nat × Nat)} {es sp : List PV} {k : IntKind} {j : Int} : iaddrP sz (.sl tip es sp) (.int k j) = if 0 ≤ j then (match es[j.toNat]? with | some e => if e.cells.length = sz then some (.ref e.cells) else none | none => none) else none := rfl
@[simp] theorem iaddrP_osl {sz id off n s : Nat} {k : IntKind} {j : Int} : iaddrP sz (.osl id off n s) (.int k j) = if 0 ≤ j ∧ j < n then some (.ptr id (off + j.toNat * sz)) else none := rfl
@[simp] theorem iaddraP_ptr {len sz id off : Nat} {k : IntKind} {j : Int} : iaddraP len sz (.ptr id off) (.int k j) = if 0 ≤ j ∧ j < len then some (.ptr id (off + j.toNat * sz)) else none := rfl
@[simp] theorem iaddraP_ref {len sz : Nat} {cs : List PV} {k : IntKind} {j : Int} : iaddraP len sz (.ref cs) (.int k j) = if 0 ≤ j ∧ j < len ∧ j.toNat * sz ≤ cs.length then some (.ref (cs.drop (j.toNat * sz))) else none := rfl
@[simp] theorem lenP_str {s : List UInt8} : lenP true (.str s) = some (.int .i64 s.length) := rfl
@[simp] theorem lenP_nils : lenP false .nils = some (.int .i64 0) := rfl
@[simp] theorem lenP_sl {tip : Option (Nat × Nat)} {es sp : List PV} : lenP false (.sl tip es sp) = some (.int .i64 es.length) := rfl
@[simp] theorem lenP_osl {id off n s : Nat} : lenP false (.osl id off n s) = some (.int .i64 n) := rfl
@[simp] theorem lenP_emp : lenP false .emp = some (.int .i64 0) := rfl
@[simp] theorem mnmxP_int {mx : Bool} {k : IntKind} {a b : Int} : mnmxP mx (.int k a) (.int k b) = some (.int k (if mx then (if b > a then b else a) else (if b < a then b else a))) := by simp [mnmxP]
theorem lenP_eq (fr : Fr) (st : Bool) (x : Opd) : peval fr (.len st x) = lenP st (ev fr x) := by
 cases st <;> simp only [peval] <;> cases ev fr x <;> rfl

section
variable {T : Tbl} {K : List Kt} {fr : Fr} {S : St} {d : Option Nat} {l : List POper}
theorem g_any {op : POp} : gval T (.ops (⟨d, op, none⟩ :: l) :: K) fr S = ob (stepV T fr S op) fun x => gval T (.ops l :: K) (updO fr d x.1) x.2 := by
 rw [gval_op]; cases stepV T fr S op <;> rfl

theorem g_val {op : POp} {q : Option PV} (h : stepV T fr S op = withSt S q) : gval T (.ops (⟨d, op, none⟩ :: l) :: K) fr S = ob q fun v => gval T (.ops l :: K) (updO fr d v) S := by
 rw [g_any, h]; cases q <;> rfl

@[simp] theorem g_mov {x : Opd} : gval T (.ops (⟨d, .mov x, none⟩ :: l) :: K) fr S = gval T (.ops l :: K) (updO fr d (ev fr x)) S := g_val (q := some (ev fr x)) rfl
@[simp] theorem g_mkif {t : Nat} {x : Opd} : gval T (.ops (⟨d, .mkif t x, none⟩ :: l) :: K) fr S = gval T (.ops l :: K) (updO fr d (.iface t (ev fr x))) S := g_val (q := some (.iface t (ev fr x))) rfl
@[simp] theorem g_mkfn {f : Nat} {caps : List Opd} : gval T (.ops (⟨d, .mkfn f caps, none⟩ :: l) :: K) fr S = gval T (.ops l :: K) (updO fr d (.fn f (caps.map (ev fr)))) S := g_val (q := some (.fn f (caps.map (ev fr)))) rfl

def pickP (c a b : PV) : Option PV := match c with | .bool true => some a | .bool false => some b | _ => none
@[simp] theorem g_pick {c a b : Opd} : gval T (.ops (⟨d, .pick c a b, none⟩ :: l) :: K) fr S = ob (pickP (ev fr c) (ev fr a) (ev fr b)) fun v => gval T (.ops l :: K) (updO fr d v) S := g_val rfl

@[simp] theorem g_arith {o : BinOp} {x y : Opd} : gval T (.ops (⟨d, .arith o x y, none⟩ :: l) :: K) fr S = ob (arith o (ev fr x) (ev fr y)) fun v => gval T (.ops l :: K) (updO fr d v) S := g_val rfl
@[simp] theorem g_un {o : UnOp} {x : Opd} : gval T (.ops (⟨d, .un o x, none⟩ :: l) :: K) fr S = ob (unOp o (ev fr x)) fun v => gval T (.ops l :: K) (updO fr d v) S := g_val rfl

def eqbP (neg : Bool) (a b : PV) : Option PV := match a, b with | .bool a, .bool b => some (negIf neg (a == b)) | _, _ => none
@[simp] theorem eqbP_bool {neg a b : Bool} : eqbP neg (.bool a) (.bool b) = some (negIf neg (a == b)) := rfl
@[simp] theorem g_eqb {neg : Bool} {x y : Opd} : gval T (.ops (⟨d, .eqb neg x y, none⟩ :: l) :: K) fr S = ob (eqbP neg (ev fr x) (ev fr y)) fun v => gval T (.ops l :: K) (updO fr d v) S := g_val rfl
@[simp] theorem negIf_f {b : Bool} : negIf false b = .bool b := rfl
@[simp] theorem negIf_t {b : Bool} : negIf true b = .bool !b := rfl

def eqnP (neg : Bool) (k : NK) (a : PV) : Option PV := match isNil k a with | some b => some (negIf neg b) | none => none
@[simp] theorem g_eqn {neg : Bool} {k : NK} {x : Opd} : gval T (.ops (⟨d, .eqn neg k x, none⟩ :: l) :: K) fr S = ob (eqnP neg k (ev fr x)) fun v => gval T (.ops l :: K) (updO fr d v) S := g_val rfl

theorem g_pe {op : POp} (h : stepV T fr S op = withSt S (peval fr op)) : gval T (.ops (⟨d, op, none⟩ :: l) :: K) fr S = ob (peval fr op) fun v => gval T (.ops l :: K) (updO fr d v) S := g_val h
def toStrP : PV → Option PV
 | .nils => some (.str [])
 | .emp => some (.str [])
 | .sl _ es _ => match bytesOf es with | some s => some (.str s) | none => none
 | _ => none
@[simp] theorem g_nilck {x : Opd} : gval T (.ops (⟨d, .nilck x, none⟩ :: l) :: K) fr S = ob (nilckP (ev fr x)) fun v => gval T (.ops l :: K) (updO fr d v) S := g_val (by simp only [stepV, pstep, peval]; rfl)
@[simp] theorem g_eqa {neg isb : Bool} {n : Nat} {x y : Opd} : gval T (.ops (⟨d, .eqa neg isb n x y, none⟩ :: l) :: K) fr S = ob (eqaP neg isb n (ev fr x) (ev fr y)) fun v => gval T (.ops l :: K) (updO fr d v) S := g_val (by simp only [stepV, pstep, peval]; rfl)
@[simp] theorem g_eqs {neg : Bool} {n : Nat} {x y : Opd} : gval T (.ops (⟨d, .eqs neg n x y, none⟩ :: l) :: K) fr S = ob (eqsP neg n (ev fr x) (ev fr y)) fun v => gval T (.ops l :: K) (updO fr d v) S := g_val (by simp only [stepV, pstep, peval]; rfl)
@[simp] theorem g_toInt {k : IntKind} {x : Opd} : gval T (.ops (⟨d, .toInt k x, none⟩ :: l) :: K) fr S = ob (toIntP k (ev fr x)) fun v => gval T (.ops l :: K) (updO fr d v) S := g_val (by simp only [stepV, pstep, peval]; rfl)
@[simp] theorem g_strId {x : Opd} : gval T (.ops (⟨d, .strId x, none⟩ :: l) :: K) fr S = ob (strIdP (ev fr x)) fun v => gval T (.ops l :: K) (updO fr d v) S := g_val (by simp only [stepV, pstep, peval]; rfl)
@[simp] theorem g_toStr {x : Opd} : gval T (.ops (⟨d, .toStr x, none⟩ :: l) :: K) fr S = ob (toStrP (ev fr x)) fun v => gval T (.ops l :: K) (updO fr d v) S := g_pe rfl
@[simp] theorem g_field {ag : Bool} {off n : Nat} {x : Opd} : gval T (.ops (⟨d, .field ag off n x, none⟩ :: l) :: K) fr S = ob (fieldP ag off n (ev fr x)) fun v => gval T (.ops l :: K) (updO fr d v) S := g_val (by simp only [stepV, pstep, peval]; rfl)
@[simp] theorem g_build {z : List PV} {ps : List (Nat × Nat × Opd)} : gval T (.ops (⟨d, .build z ps, none⟩ :: l) :: K) fr S = ob (peval fr (.build z ps)) fun v => gval T (.ops l :: K) (updO fr d v) S := g_pe rfl
@[simp] theorem g_extract {i : Nat} {x : Opd} : gval T (.ops (⟨d, .extract i x, none⟩ :: l) :: K) fr S = ob (extractP i (ev fr x)) fun v => gval T (.ops l :: K) (updO fr d v) S := g_val (by simp only [stepV, pstep, peval]; rfl)
@[simp] theorem g_assert {t : Nat} {ok : Bool} {z : PV} {x : Opd} : gval T (.ops (⟨d, .assert t ok z x, none⟩ :: l) :: K) fr S = ob (assertP t ok z (ev fr x)) fun v => gval T (.ops l :: K) (updO fr d v) S := g_val (by simp only [stepV, pstep, peval]; rfl)
@[simp] theorem g_idxs {x i : Opd} : gval T (.ops (⟨d, .idxs x i, none⟩ :: l) :: K) fr S = ob (idxsP (ev fr x) (ev fr i)) fun v => gval T (.ops l :: K) (updO fr d v) S := g_val (by simp only [stepV, pstep, peval]; rfl)
@[simp] theorem g_idxa {len n : Nat} {ag : Bool} {x i : Opd} : gval T (.ops (⟨d, .idxa len n ag x i, none⟩ :: l) :: K) fr S = ob (idxaP len n ag (ev fr x) (ev fr i)) fun v => gval T (.ops l :: K) (updO fr d v) S := g_val (by simp only [stepV, pstep, peval]; rfl)
@[simp] theorem g_slcs {lo hi : Option Opd} {x : Opd} : gval T (.ops (⟨d, .slcs lo hi x, none⟩ :: l) :: K) fr S = ob (slcsP (evO fr lo) (evO fr hi) (ev fr x)) fun v => gval T (.ops l :: K) (updO fr d v) S := g_val (by simp only [stepV, pstep, peval]; rfl)
@[simp] theorem g_slc {sz : Nat} {lo hi : Option Opd} {x : Opd} : gval T (.ops (⟨d, .slc sz lo hi x, none⟩ :: l) :: K) fr S = ob (slcP sz (evO fr lo) (evO fr hi) (ev fr x)) fun v => gval T (.ops l :: K) (updO fr d v) S := g_val (by simp only [stepV, pstep, peval]; rfl)
@[simp] theorem g_slca {len sz : Nat} {lo hi : Option Opd} {x : Opd} : gval T (.ops (⟨d, .slca len sz lo hi x, none⟩ :: l) :: K) fr S = ob (slcaP len sz (evO fr lo) (evO fr hi) (ev fr x)) fun v => gval T (.ops l :: K) (updO fr d v) S := g_val (by simp only [stepV, pstep, peval]; rfl)
@[simp] theorem g_faddr {off : Nat} {x : Opd} : gval T (.ops (⟨d, .faddr off x, none⟩ :: l) :: K) fr S = ob (faddrP off (ev fr x)) fun v => gval T (.ops l :: K) (updO fr d v) S := g_val (by simp only [stepV, pstep, peval]; rfl)
@[simp] theorem g_emp3 {x : Opd} : gval T (.ops (⟨d, .emp3 x, none⟩ :: l) :: K) fr S = ob (emp3P (ev fr x)) fun v => gval T (.ops l :: K) (updO fr d v) S := g_val (by simp only [stepV, pstep, peval]; cases ev fr x <;> rfl)
@[simp] theorem g_iaddr {sz : Nat} {x i : Opd} : gval T (.ops (⟨d, .iaddr sz x i, none⟩ :: l) :: K) fr S = ob (iaddrP sz (ev fr x) (ev fr i)) fun v => gval T (.ops l :: K) (updO fr d v) S := g_val (by simp only [stepV, pstep, peval]; rfl)
@[simp] theorem g_iaddra {len sz : Nat} {x i : Opd} : gval T (.ops (⟨d, .iaddra len sz x i, none⟩ :: l) :: K) fr S = ob (iaddraP len sz (ev fr x) (ev fr i)) fun v => gval T (.ops l :: K) (updO fr d v) S := g_val (by simp only [stepV, pstep, peval]; rfl)
@[simp] theorem g_len {st : Bool} {x : Opd} : gval T (.ops (⟨d, .len st x, none⟩ :: l) :: K) fr S = ob (lenP st (ev fr x)) fun v => gval T (.ops l :: K) (updO fr d v) S := g_val (by have h : stepV T fr S (.len st x) = withSt S (peval fr (.len st x)) := by { cases st <;> rfl }; rw [h, lenP_eq])
@[simp] theorem g_mnmx {mx : Bool} {x y : Opd} : gval T (.ops (⟨d, .mnmx mx x y, none⟩ :: l) :: K) fr S = ob (mnmxP mx (ev fr x) (ev fr y)) fun v => gval T (.ops l :: K) (updO fr d v) S := g_val (by simp only [stepV, pstep, peval]; rfl)

def loadP (S : St) (ag : Bool) (n : Nat) : PV → Option PV
 | .ref cs => partOf ag n cs
 | .ptr id off => match S.objs[id]? with | some cs => partOf ag n (cs.drop off) | none => none
 | _ => none
@[simp] theorem g_load {ag : Bool} {n : Nat} {mix : Bool} {x : Opd} : gval T (.ops (⟨d, .load ag n mix x, none⟩ :: l) :: K) fr S = ob (if mix then (match ev fr x with | .ref cs => partOf ag n cs | _ => none) else loadP S ag n (ev fr x)) fun v => gval T (.ops l :: K) (updO fr d v) S := by
 cases mix
 ·refine g_val ?_
  simp only [stepV, pstep, Bool.false_eq_true, if_false]
  cases ev fr x <;> simp only [loadP] <;> try rfl
  case ptr id off =>
   cases h : S.objs[id]? with
   | none => rfl
   | some cs => cases h2 : partOf ag n (cs.drop off) <;> simp [h2, withSt]
 ·exact g_pe rfl

def loadbP (S : St) (ag : Bool) (n : Nat) : PV → PV → Option PV
 | .ptr i _, .ptr id off => if i = id then loadP S ag n (.ptr id off) else none
 | _, _ => none
@[simp] theorem loadbP_ptr {S : St} {ag : Bool} {n i o off : Nat} : loadbP S ag n (.ptr i o) (.ptr i off) = loadP S ag n (.ptr i off) := if_pos rfl
@[simp] theorem g_loadb {b : Nat} {ag : Bool} {n : Nat} {x : Opd} : gval T (.ops (⟨d, .loadb b ag n x, none⟩ :: l) :: K) fr S = ob (loadbP S ag n (fr b) (ev fr x)) fun v => gval T (.ops l :: K) (updO fr d v) S := by
 refine g_val ?_
 simp only [stepV, pstep]
 cases fr b <;> cases ev fr x <;> simp only [loadbP] <;> try rfl
 rename_i i o id off
 by_cases hi : i = id
 ·subst hi
  simp only [if_true, loadP]
  cases h : S.objs[i]? with
  | none => rfl
  | some cs => cases h2 : partOf ag n (cs.drop off) <;> simp [h2, withSt]
 ·simp only [if_neg hi]; rfl
theorem g_st {op : POp} {q : Option (PV × St)} (h : stepV T fr S op = q) : gval T (.ops (⟨d, op, none⟩ :: l) :: K) fr S = ob q fun x => gval T (.ops l :: K) (updO fr d x.1) x.2 := by rw [g_any, h]
@[simp] theorem g_store {n : Nat} {a v : Opd} : gval T (.ops (⟨d, .store n a v, none⟩ :: l) :: K) fr S = ob (pstep T (cval T) fr S (.store n a v)) fun x => gval T (.ops l :: K) (updO fr d x.1) x.2 := g_st rfl
@[simp] theorem g_stb {q : List Nat} {n : Nat} {a v : Opd} : gval T (.ops (⟨d, .stb q n a v, none⟩ :: l) :: K) fr S = ob (pstep T (cval T) fr S (.stb q n a v)) fun x => gval T (.ops l :: K) (updO fr d x.1) x.2 := g_st rfl
@[simp] theorem g_box {ro : Bool} {x : Opd} : gval T (.ops (⟨d, .box ro x, none⟩ :: l) :: K) fr S = ob (pstep T (cval T) fr S (.box ro x)) fun x => gval T (.ops l :: K) (updO fr d x.1) x.2 := g_st rfl
@[simp] theorem g_alloc {ro : Bool} {z : List PV} : gval T (.ops (⟨d, .alloc ro z, none⟩ :: l) :: K) fr S = ob (pstep T (cval T) fr S (.alloc ro z)) fun x => gval T (.ops l :: K) (updO fr d x.1) x.2 := g_st rfl
@[simp] theorem g_bsl {ro : Bool} {ze : PV} {n : Nat} {ps : List (Nat × Opd)} : gval T (.ops (⟨d, .bsl ro ze n ps, none⟩ :: l) :: K) fr S = ob (pstep T (cval T) fr S (.bsl ro ze n ps)) fun x => gval T (.ops l :: K) (updO fr d x.1) x.2 := g_st rfl
@[simp] theorem g_toBytes {ro : Bool} {x : Opd} : gval T (.ops (⟨d, .toBytes ro x, none⟩ :: l) :: K) fr S = ob (pstep T (cval T) fr S (.toBytes ro x)) fun x => gval T (.ops l :: K) (updO fr d x.1) x.2 := g_st rfl
@[simp] theorem g_mks {sz b : Nat} {c : Opd} : gval T (.ops (⟨d, .mks sz b c, none⟩ :: l) :: K) fr S = ob (pstep T (cval T) fr S (.mks sz b c)) fun x => gval T (.ops l :: K) (updO fr d x.1) x.2 := g_st rfl
def appP (sz bytes : Nat) (S : St) (s x : PV) : Option (PV × St) := ob (appendedS S sz x) fun new => if 0 < sz then appendTo sz bytes S s new else none
@[simp] theorem appendedS_nils {S : St} {sz : Nat} : appendedS S sz .nils = some [] := rfl
@[simp] theorem appendedS_emp {S : St} {sz : Nat} : appendedS S sz .emp = some [] := rfl
@[simp] theorem appendedS_sl {S : St} {sz : Nat} {tip : Option (Nat × Nat)} {es sp : List PV} : appendedS S sz (.sl tip es sp) = if szOk sz es then some es else none := rfl
@[simp] theorem appendedS_str {S : St} {sz : Nat} {s : List UInt8} : appendedS S sz (.str s) = if sz = 1 then some (ofBytes s) else none := rfl
def gappP (sz bytes : Nat) (S : St) (s x : PV) : Option (PV × St) := ob (appendedS S sz x) fun new => if 0 < sz then gappTo sz bytes S s new else none
@[simp] theorem appended_nils {sz : Nat} : appended sz .nils = some [] := rfl
@[simp] theorem appended_sl {sz : Nat} {tip : Option (Nat × Nat)} {es sp : List PV} : appended sz (.sl tip es sp) = if szOk sz es then some es else none := rfl
@[simp] theorem appended_str {sz : Nat} {s : List UInt8} : appended sz (.str s) = if sz = 1 then some (ofBytes s) else none := rfl
@[simp] theorem szOk_nil {sz : Nat} : szOk sz [] = true := rfl
@[simp] theorem szOk_cons {sz : Nat} {e : PV} {l : List PV} : szOk sz (e :: l) = (e.cells.length == sz) := rfl
@[simp] theorem appP_eq {sz bytes : Nat} {S : St} {s x : PV} : appP sz bytes S s x = ob (appendedS S sz x) fun new => if 0 < sz then appendTo sz bytes S s new else none := rfl
@[simp] theorem gappP_eq {sz bytes : Nat} {S : St} {s x : PV} : gappP sz bytes S s x = ob (appendedS S sz x) fun new => if 0 < sz then gappTo sz bytes S s new else none := rfl
@[simp] theorem g_mkm : gval T (.ops (⟨d, .mkm, none⟩ :: l) :: K) fr S = ob (pstep T (cval T) fr S .mkm) fun x => gval T (.ops l :: K) (updO fr d x.1) x.2 := g_st rfl
@[simp] theorem g_mlk {ks : Bool} {ok : Bool} {z : PV} {x k : Opd} : gval T (.ops (⟨d, .mlk ks ok z x k, none⟩ :: l) :: K) fr S = ob (pstep T (cval T) fr S (.mlk ks ok z x k)) fun x => gval T (.ops l :: K) (updO fr d x.1) x.2 := g_st rfl
@[simp] theorem g_mlen {x : Opd} : gval T (.ops (⟨d, .mlen x, none⟩ :: l) :: K) fr S = ob (pstep T (cval T) fr S (.mlen x)) fun x => gval T (.ops l :: K) (updO fr d x.1) x.2 := g_st rfl
@[simp] theorem g_mset {ks : Bool} {x k v : Opd} : gval T (.ops (⟨d, .mset ks x k v, none⟩ :: l) :: K) fr S = ob (pstep T (cval T) fr S (.mset ks x k v)) fun x => gval T (.ops l :: K) (updO fr d x.1) x.2 := g_st rfl
@[simp] theorem g_plk {ok : Bool} {z : PV} {x k : Opd} : gval T (.ops (⟨d, .plk ok z x k, none⟩ :: l) :: K) fr S = ob (pstep T (cval T) fr S (.plk ok z x k)) fun x => gval T (.ops l :: K) (updO fr d x.1) x.2 := g_st rfl
@[simp] theorem g_pset {x k v : Opd} : gval T (.ops (⟨d, .pset x k v, none⟩ :: l) :: K) fr S = ob (pstep T (cval T) fr S (.pset x k v)) fun x => gval T (.ops l :: K) (updO fr d x.1) x.2 := g_st rfl
@[simp] theorem g_mdel {ks : Bool} {x k : Opd} : gval T (.ops (⟨d, .mdel ks x k, none⟩ :: l) :: K) fr S = ob (pstep T (cval T) fr S (.mdel ks x k)) fun x => gval T (.ops l :: K) (updO fr d x.1) x.2 := g_st rfl
@[simp] theorem g_slc3 {sz : Nat} {lo : Option Opd} {hi mx x : Opd} : gval T (.ops (⟨d, .slc3 sz lo hi mx x, none⟩ :: l) :: K) fr S = ob (pstep T (cval T) fr S (.slc3 sz lo hi mx x)) fun x => gval T (.ops l :: K) (updO fr d x.1) x.2 := g_st rfl
@[simp] theorem g_mkbfn {f : Nat} {xs : List Opd} : gval T (.ops (⟨d, .mkbfn f xs, none⟩ :: l) :: K) fr S = ob (pstep T (cval T) fr S (.mkbfn f xs)) fun x => gval T (.ops l :: K) (updO fr d x.1) x.2 := g_st rfl
@[simp] theorem g_app {sz b : Nat} {s x : Opd} : gval T (.ops (⟨d, .app sz b s x, none⟩ :: l) :: K) fr S = ob (appP sz b S (ev fr s) (ev fr x)) fun x => gval T (.ops l :: K) (updO fr d x.1) x.2 := by
 refine g_st ?_
 simp only [stepV, pstep, appP]
 cases appendedS S sz (ev fr x) <;> rfl
@[simp] theorem g_gapp {sz b : Nat} {s x : Opd} : gval T (.ops (⟨d, .gapp sz b s x, none⟩ :: l) :: K) fr S = ob (gappP sz b S (ev fr s) (ev fr x)) fun x => gval T (.ops l :: K) (updO fr d x.1) x.2 := by
 refine g_st ?_
 simp only [stepV, pstep, gappP]
 cases appendedS S sz (ev fr x) <;> rfl
@[simp] theorem g_toStrO {x : Opd} : gval T (.ops (⟨d, .toStrO x, none⟩ :: l) :: K) fr S = ob (pstep T (cval T) fr S (.toStrO x)) fun x => gval T (.ops l :: K) (updO fr d x.1) x.2 := g_st rfl
@[simp] theorem g_emp0 : gval T (.ops (⟨d, .emp0, none⟩ :: l) :: K) fr S = gval T (.ops l :: K) (updO fr d .emp) S := g_st rfl
@[simp] theorem g_gclr {sz : Nat} {z : List PV} {x : Opd} : gval T (.ops (⟨d, .gclr sz z x, none⟩ :: l) :: K) fr S = ob (pstep T (cval T) fr S (.gclr sz z x)) fun x => gval T (.ops l :: K) (updO fr d x.1) x.2 := g_st rfl
noncomputable def callbP (T : Tbl) (f : Nat) (args : List PV) (S : St) : PV → Option (PV × St)
 | .ptr i _ => keepO i S (cval T f args S)
 | _ => none
@[simp] theorem callbP_ptr {f : Nat} {args : List PV} {S : St} {i o : Nat} : callbP T f args S (.ptr i o) = keepO i S (cval T f args S) := rfl
@[simp] theorem g_callb {b f : Nat} {xs : List Opd} : gval T (.ops (⟨d, .callb b f xs, none⟩ :: l) :: K) fr S = ob (callbP T f (xs.map (ev fr)) S (fr b)) fun x => gval T (.ops l :: K) (updO fr d x.1) x.2 := g_st rfl
@[simp] theorem g_call {m : CM} {f : Nat} {xs : List Opd} : gval T (.ops (⟨d, .call m f xs, none⟩ :: l) :: K) fr S = ob (aCall (cval T) m f (xs.map (ev fr)) S) fun x => gval T (.ops l :: K) (updO fr d x.1) x.2 := g_st rfl

noncomputable def callvP (T : Tbl) (m : CM) (x : PV) (args : List PV) (S : St) : Option (PV × St) := match x with | .fn f caps => aCall (cval T) m f (args ++ caps) S | .bfn f first => aCall (cval T) m f (first ++ args) S | _ => none
@[simp] theorem callvP_bfn {T : Tbl} {m : CM} {f : Nat} {first args : List PV} {S : St} : callvP T m (.bfn f first) args S = aCall (cval T) m f (first ++ args) S := rfl
@[simp] theorem callvP_fn {m : CM} {f : Nat} {caps args : List PV} : callvP T m (.fn f caps) args S = aCall (cval T) m f (args ++ caps) S := rfl
@[simp] theorem g_callv {m : CM} {x : Opd} {xs : List Opd} : gval T (.ops (⟨d, .callv m x xs, none⟩ :: l) :: K) fr S = ob (callvP T m (ev fr x) (xs.map (ev fr)) S) fun x => gval T (.ops l :: K) (updO fr d x.1) x.2 := g_st rfl

noncomputable def invP (T : Tbl) (cm : CM) (m : Nat) (x : PV) (args : List PV) (S : St) : Option (PV × St) := match x with | .iface t v => (match T.meth t m with | some f => aCall (cval T) cm f (v :: args) S | none => none) | _ => none
@[simp] theorem g_inv {cm : CM} {m : Nat} {x : Opd} {xs : List Opd} : gval T (.ops (⟨d, .inv cm m x xs, none⟩ :: l) :: K) fr S = ob (invP T cm m (ev fr x) (xs.map (ev fr)) S) fun x => gval T (.ops l :: K) (updO fr d x.1) x.2 := g_st rfl
end
attribute [simp] aCall_pur
def nt (c : Bool) : Bool := !c
def an (c d : Bool) : Bool := c && d
@[simp] theorem nt_true : nt true = false := rfl
@[simp] theorem nt_false : nt false = true := rfl
@[simp] theorem an_true (d : Bool) : an true d = d := rfl
@[simp] theorem an_false (d : Bool) : an false d = false := rfl
@[simp] theorem an_true' (d : Bool) : an d true = d := by cases d <;> rfl
@[simp] theorem an_false' (d : Bool) : an d false = false := by cases d <;> rfl
def sel (c : Bool) (x : Option PV) : Option PV := if c = true then x else some (.tup [])
def gd (c : Bool) (v : PV) : PV := if c = true then v else .tup []
@[simp] theorem sel_some (c : Bool) (v : PV) : sel c (some v) = some (gd c v) := by cases c <;> rfl
@[simp] theorem sel_true (x : Option PV) : sel true x = x := rfl
@[simp] theorem sel_false (x : Option PV) : sel false x = some (.tup []) := rfl
@[simp] theorem gd_true (v : PV) : gd true v = v := rfl
@[simp] theorem gd_false (v : PV) : gd false v = .tup [] := rfl
@[congr] theorem gd_congr {c c' : Bool} {v : PV} (h : c = c') : gd c v = gd c' v := by rw [h]
def selP (v : PV) (b : Bool) (x : Option PV) : Option PV := match v with | .bool c => sel (if b then c else !c) x | .tup [] => some (.tup []) | _ => none
@[congr] theorem selP_congr {v v' : PV} {b : Bool} {x : Option PV} (h : v = v') : selP v b x = selP v' b x := by rw [h]
@[simp] theorem selP_t (c : Bool) (x : Option PV) : selP (.bool c) true x = sel c x := rfl
@[simp] theorem selP_f (c : Bool) (x : Option PV) : selP (.bool c) false x = sel (nt c) x := rfl
@[simp] theorem selP_u (b : Bool) (x : Option PV) : selP (.tup []) b x = some (.tup []) := rfl
@[simp] theorem selP_gt (c d : Bool) (x : Option PV) : selP (gd c (.bool d)) true x = sel (an c d) x := by cases c <;> cases d <;> rfl
@[simp] theorem selP_gf (c d : Bool) (x : Option PV) : selP (gd c (.bool d)) false x = sel (an c (nt d)) x := by cases c <;> cases d <;> rfl
@[simp] theorem pick_and (c d : Bool) : pickP (.bool c) (.bool d) (.bool false) = some (.bool (c && d)) := by cases c <;> rfl
@[simp] theorem pick_or (c d : Bool) : pickP (.bool c) (.bool true) (.bool d) = some (.bool (c || d)) := by cases c <;> rfl
@[simp] theorem pick_t (a b : PV) : pickP (.bool true) a b = some a := rfl
@[simp] theorem pick_f (a b : PV) : pickP (.bool false) a b = some b := rfl

noncomputable def purV (T : Tbl) (f : Nat) (args : List PV) : Option PV := if PV.freeL args then pval T f (PV.frzL args) else none
theorem purV_free {T : Tbl} {f : Nat} {args : List PV} (h : PV.freeL args = true) : purV T f args = pval T f (PV.frzL args) := if_pos h
@[simp] theorem purV_0 {T : Tbl} {f : Nat} : purV T f [] = pval T f [] := by rw [purV_free (by simp)]; simp
@[simp] theorem purV_1 {T : Tbl} {f : Nat} {a : PV} (h : a.free = true) : purV T f [a] = pval T f [a.frz] := by rw [purV_free (by simp [h])]; simp
@[simp] theorem purV_2 {T : Tbl} {f : Nat} {a b : PV} (h : a.free = true) (h2 : b.free = true) : purV T f [a, b] = pval T f [a.frz, b.frz] := by rw [purV_free (by simp [h, h2])]; simp
@[simp] theorem purV_3 {T : Tbl} {f : Nat} {a b c : PV} (h : a.free = true) (h2 : b.free = true) (h3 : c.free = true) : purV T f [a, b, c] = pval T f [a.frz, b.frz, c.frz] := by rw [purV_free (by simp [h, h2, h3])]; simp
@[simp] theorem sg1 {c : Bool} {x : PV} {o : UnOp} : sel c (unOp o (gd c x)) = sel c (unOp o x) := by cases c <;> rfl
@[simp] theorem sg2 {c d : Bool} {x : PV} {o : UnOp} : sel (an c d) (unOp o (gd c x)) = sel (an c d) (unOp o x) := by cases c <;> cases d <;> rfl
@[simp] theorem sg3 {c d : Bool} {x : PV} {o : UnOp} : sel (an c d) (unOp o (gd d x)) = sel (an c d) (unOp o x) := by cases c <;> cases d <;> rfl
@[simp] theorem sg4 {c d e : Bool} {x : PV} {o : UnOp} : sel (an (an c d) e) (unOp o (gd c x)) = sel (an (an c d) e) (unOp o x) := by cases c <;> cases d <;> cases e <;> rfl
@[simp] theorem sg5 {c d e : Bool} {x : PV} {o : UnOp} : sel (an (an c d) e) (unOp o (gd (an c d) x)) = sel (an (an c d) e) (unOp o x) := by cases c <;> cases d <;> cases e <;> rfl
@[simp] theorem sg6 {c : Bool} {x : PV} {neg : Bool} {k : NK} : sel c (eqnP neg k (gd c x)) = sel c (eqnP neg k x) := by cases c <;> rfl
@[simp] theorem sg7 {c d : Bool} {x : PV} {neg : Bool} {k : NK} : sel (an c d) (eqnP neg k (gd c x)) = sel (an c d) (eqnP neg k x) := by cases c <;> cases d <;> rfl
@[simp] theorem sg8 {c d : Bool} {x : PV} {neg : Bool} {k : NK} : sel (an c d) (eqnP neg k (gd d x)) = sel (an c d) (eqnP neg k x) := by cases c <;> cases d <;> rfl
@[simp] theorem sg9 {c d e : Bool} {x : PV} {neg : Bool} {k : NK} : sel (an (an c d) e) (eqnP neg k (gd c x)) = sel (an (an c d) e) (eqnP neg k x) := by cases c <;> cases d <;> cases e <;> rfl
@[simp] theorem sg10 {c d e : Bool} {x : PV} {neg : Bool} {k : NK} : sel (an (an c d) e) (eqnP neg k (gd (an c d) x)) = sel (an (an c d) e) (eqnP neg k x) := by cases c <;> cases d <;> cases e <;> rfl
@[simp] theorem sg11 {c : Bool} {x : PV}  : sel c (nilckP (gd c x)) = sel c (nilckP x) := by cases c <;> rfl
@[simp] theorem sg12 {c d : Bool} {x : PV}  : sel (an c d) (nilckP (gd c x)) = sel (an c d) (nilckP x) := by cases c <;> cases d <;> rfl
@[simp] theorem sg13 {c d : Bool} {x : PV}  : sel (an c d) (nilckP (gd d x)) = sel (an c d) (nilckP x) := by cases c <;> cases d <;> rfl
@[simp] theorem sg14 {c d e : Bool} {x : PV}  : sel (an (an c d) e) (nilckP (gd c x)) = sel (an (an c d) e) (nilckP x) := by cases c <;> cases d <;> cases e <;> rfl
@[simp] theorem sg15 {c d e : Bool} {x : PV}  : sel (an (an c d) e) (nilckP (gd (an c d) x)) = sel (an (an c d) e) (nilckP x) := by cases c <;> cases d <;> cases e <;> rfl
@[simp] theorem sg16 {c : Bool} {x : PV} {k : IntKind} : sel c (toIntP k (gd c x)) = sel c (toIntP k x) := by cases c <;> rfl
@[simp] theorem sg17 {c d : Bool} {x : PV} {k : IntKind} : sel (an c d) (toIntP k (gd c x)) = sel (an c d) (toIntP k x) := by cases c <;> cases d <;> rfl
@[simp] theorem sg18 {c d : Bool} {x : PV} {k : IntKind} : sel (an c d) (toIntP k (gd d x)) = sel (an c d) (toIntP k x) := by cases c <;> cases d <;> rfl
@[simp] theorem sg19 {c d e : Bool} {x : PV} {k : IntKind} : sel (an (an c d) e) (toIntP k (gd c x)) = sel (an (an c d) e) (toIntP k x) := by cases c <;> cases d <;> cases e <;> rfl
@[simp] theorem sg20 {c d e : Bool} {x : PV} {k : IntKind} : sel (an (an c d) e) (toIntP k (gd (an c d) x)) = sel (an (an c d) e) (toIntP k x) := by cases c <;> cases d <;> cases e <;> rfl
@[simp] theorem sg21 {c : Bool} {x : PV}  : sel c (strIdP (gd c x)) = sel c (strIdP x) := by cases c <;> rfl
@[simp] theorem sg22 {c d : Bool} {x : PV}  : sel (an c d) (strIdP (gd c x)) = sel (an c d) (strIdP x) := by cases c <;> cases d <;> rfl
@[simp] theorem sg23 {c d : Bool} {x : PV}  : sel (an c d) (strIdP (gd d x)) = sel (an c d) (strIdP x) := by cases c <;> cases d <;> rfl
@[simp] theorem sg24 {c d e : Bool} {x : PV}  : sel (an (an c d) e) (strIdP (gd c x)) = sel (an (an c d) e) (strIdP x) := by cases c <;> cases d <;> cases e <;> rfl
@[simp] theorem sg25 {c d e : Bool} {x : PV}  : sel (an (an c d) e) (strIdP (gd (an c d) x)) = sel (an (an c d) e) (strIdP x) := by cases c <;> cases d <;> cases e <;> rfl
@[simp] theorem sg26 {c : Bool} {x : PV} {ag : Bool} {off n : Nat} : sel c (fieldP ag off n (gd c x)) = sel c (fieldP ag off n x) := by cases c <;> rfl
@[simp] theorem sg27 {c d : Bool} {x : PV} {ag : Bool} {off n : Nat} : sel (an c d) (fieldP ag off n (gd c x)) = sel (an c d) (fieldP ag off n x) := by cases c <;> cases d <;> rfl
@[simp] theorem sg28 {c d : Bool} {x : PV} {ag : Bool} {off n : Nat} : sel (an c d) (fieldP ag off n (gd d x)) = sel (an c d) (fieldP ag off n x) := by cases c <;> cases d <;> rfl
@[simp] theorem sg29 {c d e : Bool} {x : PV} {ag : Bool} {off n : Nat} : sel (an (an c d) e) (fieldP ag off n (gd c x)) = sel (an (an c d) e) (fieldP ag off n x) := by cases c <;> cases d <;> cases e <;> rfl
@[simp] theorem sg30 {c d e : Bool} {x : PV} {ag : Bool} {off n : Nat} : sel (an (an c d) e) (fieldP ag off n (gd (an c d) x)) = sel (an (an c d) e) (fieldP ag off n x) := by cases c <;> cases d <;> cases e <;> rfl
@[simp] theorem sg31 {c : Bool} {x : PV} {i : Nat} : sel c (extractP i (gd c x)) = sel c (extractP i x) := by cases c <;> rfl
@[simp] theorem sg32 {c d : Bool} {x : PV} {i : Nat} : sel (an c d) (extractP i (gd c x)) = sel (an c d) (extractP i x) := by cases c <;> cases d <;> rfl
@[simp] theorem sg33 {c d : Bool} {x : PV} {i : Nat} : sel (an c d) (extractP i (gd d x)) = sel (an c d) (extractP i x) := by cases c <;> cases d <;> rfl
@[simp] theorem sg34 {c d e : Bool} {x : PV} {i : Nat} : sel (an (an c d) e) (extractP i (gd c x)) = sel (an (an c d) e) (extractP i x) := by cases c <;> cases d <;> cases e <;> rfl
@[simp] theorem sg35 {c d e : Bool} {x : PV} {i : Nat} : sel (an (an c d) e) (extractP i (gd (an c d) x)) = sel (an (an c d) e) (extractP i x) := by cases c <;> cases d <;> cases e <;> rfl
@[simp] theorem sg36 {c : Bool} {x : PV} {t : Nat} {ok : Bool} {z : PV} : sel c (assertP t ok z (gd c x)) = sel c (assertP t ok z x) := by cases c <;> rfl
@[simp] theorem sg37 {c d : Bool} {x : PV} {t : Nat} {ok : Bool} {z : PV} : sel (an c d) (assertP t ok z (gd c x)) = sel (an c d) (assertP t ok z x) := by cases c <;> cases d <;> rfl
@[simp] theorem sg38 {c d : Bool} {x : PV} {t : Nat} {ok : Bool} {z : PV} : sel (an c d) (assertP t ok z (gd d x)) = sel (an c d) (assertP t ok z x) := by cases c <;> cases d <;> rfl
@[simp] theorem sg39 {c d e : Bool} {x : PV} {t : Nat} {ok : Bool} {z : PV} : sel (an (an c d) e) (assertP t ok z (gd c x)) = sel (an (an c d) e) (assertP t ok z x) := by cases c <;> cases d <;> cases e <;> rfl
@[simp] theorem sg40 {c d e : Bool} {x : PV} {t : Nat} {ok : Bool} {z : PV} : sel (an (an c d) e) (assertP t ok z (gd (an c d) x)) = sel (an (an c d) e) (assertP t ok z x) := by cases c <;> cases d <;> cases e <;> rfl
@[simp] theorem sg41 {c : Bool} {x : PV} {lo hi : Option PV} : sel c (slcsP lo hi (gd c x)) = sel c (slcsP lo hi x) := by cases c <;> rfl
@[simp] theorem sg42 {c d : Bool} {x : PV} {lo hi : Option PV} : sel (an c d) (slcsP lo hi (gd c x)) = sel (an c d) (slcsP lo hi x) := by cases c <;> cases d <;> rfl
@[simp] theorem sg43 {c d : Bool} {x : PV} {lo hi : Option PV} : sel (an c d) (slcsP lo hi (gd d x)) = sel (an c d) (slcsP lo hi x) := by cases c <;> cases d <;> rfl
@[simp] theorem sg44 {c d e : Bool} {x : PV} {lo hi : Option PV} : sel (an (an c d) e) (slcsP lo hi (gd c x)) = sel (an (an c d) e) (slcsP lo hi x) := by cases c <;> cases d <;> cases e <;> rfl
@[simp] theorem sg45 {c d e : Bool} {x : PV} {lo hi : Option PV} : sel (an (an c d) e) (slcsP lo hi (gd (an c d) x)) = sel (an (an c d) e) (slcsP lo hi x) := by cases c <;> cases d <;> cases e <;> rfl
@[simp] theorem sg46 {c : Bool} {x : PV} {sz : Nat} {lo hi : Option PV} : sel c (slcP sz lo hi (gd c x)) = sel c (slcP sz lo hi x) := by cases c <;> rfl
@[simp] theorem sg47 {c d : Bool} {x : PV} {sz : Nat} {lo hi : Option PV} : sel (an c d) (slcP sz lo hi (gd c x)) = sel (an c d) (slcP sz lo hi x) := by cases c <;> cases d <;> rfl
@[simp] theorem sg48 {c d : Bool} {x : PV} {sz : Nat} {lo hi : Option PV} : sel (an c d) (slcP sz lo hi (gd d x)) = sel (an c d) (slcP sz lo hi x) := by cases c <;> cases d <;> rfl
@[simp] theorem sg49 {c d e : Bool} {x : PV} {sz : Nat} {lo hi : Option PV} : sel (an (an c d) e) (slcP sz lo hi (gd c x)) = sel (an (an c d) e) (slcP sz lo hi x) := by cases c <;> cases d <;> cases e <;> rfl
@[simp] theorem sg50 {c d e : Bool} {x : PV} {sz : Nat} {lo hi : Option PV} : sel (an (an c d) e) (slcP sz lo hi (gd (an c d) x)) = sel (an (an c d) e) (slcP sz lo hi x) := by cases c <;> cases d <;> cases e <;> rfl
@[simp] theorem sg51 {c : Bool} {x : PV} {off : Nat} : sel c (faddrP off (gd c x)) = sel c (faddrP off x) := by cases c <;> rfl
@[simp] theorem sg52 {c d : Bool} {x : PV} {off : Nat} : sel (an c d) (faddrP off (gd c x)) = sel (an c d) (faddrP off x) := by cases c <;> cases d <;> rfl
@[simp] theorem sg53 {c d : Bool} {x : PV} {off : Nat} : sel (an c d) (faddrP off (gd d x)) = sel (an c d) (faddrP off x) := by cases c <;> cases d <;> rfl
@[simp] theorem sg54 {c d e : Bool} {x : PV} {off : Nat} : sel (an (an c d) e) (faddrP off (gd c x)) = sel (an (an c d) e) (faddrP off x) := by cases c <;> cases d <;> cases e <;> rfl
@[simp] theorem sg55 {c d e : Bool} {x : PV} {off : Nat} : sel (an (an c d) e) (faddrP off (gd (an c d) x)) = sel (an (an c d) e) (faddrP off x) := by cases c <;> cases d <;> cases e <;> rfl
@[simp] theorem sg56 {c : Bool} {x : PV} {st : Bool} : sel c (lenP st (gd c x)) = sel c (lenP st x) := by cases c <;> rfl
@[simp] theorem sg57 {c d : Bool} {x : PV} {st : Bool} : sel (an c d) (lenP st (gd c x)) = sel (an c d) (lenP st x) := by cases c <;> cases d <;> rfl
@[simp] theorem sg58 {c d : Bool} {x : PV} {st : Bool} : sel (an c d) (lenP st (gd d x)) = sel (an c d) (lenP st x) := by cases c <;> cases d <;> rfl
@[simp] theorem sg59 {c d e : Bool} {x : PV} {st : Bool} : sel (an (an c d) e) (lenP st (gd c x)) = sel (an (an c d) e) (lenP st x) := by cases c <;> cases d <;> cases e <;> rfl
@[simp] theorem sg60 {c d e : Bool} {x : PV} {st : Bool} : sel (an (an c d) e) (lenP st (gd (an c d) x)) = sel (an (an c d) e) (lenP st x) := by cases c <;> cases d <;> cases e <;> rfl
@[simp] theorem sg61 {c : Bool} {x : PV}  : sel c (toStrP (gd c x)) = sel c (toStrP x) := by cases c <;> rfl
@[simp] theorem sg62 {c d : Bool} {x : PV}  : sel (an c d) (toStrP (gd c x)) = sel (an c d) (toStrP x) := by cases c <;> cases d <;> rfl
@[simp] theorem sg63 {c d : Bool} {x : PV}  : sel (an c d) (toStrP (gd d x)) = sel (an c d) (toStrP x) := by cases c <;> cases d <;> rfl
@[simp] theorem sg64 {c d e : Bool} {x : PV}  : sel (an (an c d) e) (toStrP (gd c x)) = sel (an (an c d) e) (toStrP x) := by cases c <;> cases d <;> cases e <;> rfl
@[simp] theorem sg65 {c d e : Bool} {x : PV}  : sel (an (an c d) e) (toStrP (gd (an c d) x)) = sel (an (an c d) e) (toStrP x) := by cases c <;> cases d <;> cases e <;> rfl
@[simp] theorem sg66 {c : Bool} {x : PV} {S : St} {ag : Bool} {n : Nat} : sel c (loadP S ag n (gd c x)) = sel c (loadP S ag n x) := by cases c <;> rfl
@[simp] theorem sg67 {c d : Bool} {x : PV} {S : St} {ag : Bool} {n : Nat} : sel (an c d) (loadP S ag n (gd c x)) = sel (an c d) (loadP S ag n x) := by cases c <;> cases d <;> rfl
@[simp] theorem sg68 {c d : Bool} {x : PV} {S : St} {ag : Bool} {n : Nat} : sel (an c d) (loadP S ag n (gd d x)) = sel (an c d) (loadP S ag n x) := by cases c <;> cases d <;> rfl
@[simp] theorem sg69 {c d e : Bool} {x : PV} {S : St} {ag : Bool} {n : Nat} : sel (an (an c d) e) (loadP S ag n (gd c x)) = sel (an (an c d) e) (loadP S ag n x) := by cases c <;> cases d <;> cases e <;> rfl
@[simp] theorem sg70 {c d e : Bool} {x : PV} {S : St} {ag : Bool} {n : Nat} : sel (an (an c d) e) (loadP S ag n (gd (an c d) x)) = sel (an (an c d) e) (loadP S ag n x) := by cases c <;> cases d <;> cases e <;> rfl
@[simp] theorem sg71 {c : Bool} {x y : PV} {o : BinOp} : sel c (arith o (gd c x) y) = sel c (arith o x y) := by cases c <;> rfl
@[simp] theorem sg72 {c : Bool} {x y : PV} {o : BinOp} : sel c (arith o y (gd c x)) = sel c (arith o y x) := by cases c <;> rfl
@[simp] theorem sg73 {c d : Bool} {x y : PV} {o : BinOp} : sel (an c d) (arith o (gd c x) y) = sel (an c d) (arith o x y) := by cases c <;> cases d <;> rfl
@[simp] theorem sg74 {c d : Bool} {x y : PV} {o : BinOp} : sel (an c d) (arith o y (gd c x)) = sel (an c d) (arith o y x) := by cases c <;> cases d <;> rfl
@[simp] theorem sg75 {c d : Bool} {x y : PV} {o : BinOp} : sel (an c d) (arith o (gd d x) y) = sel (an c d) (arith o x y) := by cases c <;> cases d <;> rfl
@[simp] theorem sg76 {c d : Bool} {x y : PV} {o : BinOp} : sel (an c d) (arith o y (gd d x)) = sel (an c d) (arith o y x) := by cases c <;> cases d <;> rfl
@[simp] theorem sg77 {c d e : Bool} {x y : PV} {o : BinOp} : sel (an (an c d) e) (arith o (gd c x) y) = sel (an (an c d) e) (arith o x y) := by cases c <;> cases d <;> cases e <;> rfl
@[simp] theorem sg78 {c d e : Bool} {x y : PV} {o : BinOp} : sel (an (an c d) e) (arith o y (gd c x)) = sel (an (an c d) e) (arith o y x) := by cases c <;> cases d <;> cases e <;> rfl
@[simp] theorem sg79 {c d e : Bool} {x y : PV} {o : BinOp} : sel (an (an c d) e) (arith o (gd (an c d) x) y) = sel (an (an c d) e) (arith o x y) := by cases c <;> cases d <;> cases e <;> rfl
@[simp] theorem sg80 {c d e : Bool} {x y : PV} {o : BinOp} : sel (an (an c d) e) (arith o y (gd (an c d) x)) = sel (an (an c d) e) (arith o y x) := by cases c <;> cases d <;> cases e <;> rfl
@[simp] theorem sg81 {c : Bool} {x y : PV} {neg : Bool} : sel c (eqbP neg (gd c x) y) = sel c (eqbP neg x y) := by cases c <;> rfl
@[simp] theorem sg82 {c : Bool} {x y : PV} {neg : Bool} : sel c (eqbP neg y (gd c x)) = sel c (eqbP neg y x) := by cases c <;> rfl
@[simp] theorem sg83 {c d : Bool} {x y : PV} {neg : Bool} : sel (an c d) (eqbP neg (gd c x) y) = sel (an c d) (eqbP neg x y) := by cases c <;> cases d <;> rfl
@[simp] theorem sg84 {c d : Bool} {x y : PV} {neg : Bool} : sel (an c d) (eqbP neg y (gd c x)) = sel (an c d) (eqbP neg y x) := by cases c <;> cases d <;> rfl
@[simp] theorem sg85 {c d : Bool} {x y : PV} {neg : Bool} : sel (an c d) (eqbP neg (gd d x) y) = sel (an c d) (eqbP neg x y) := by cases c <;> cases d <;> rfl
@[simp] theorem sg86 {c d : Bool} {x y : PV} {neg : Bool} : sel (an c d) (eqbP neg y (gd d x)) = sel (an c d) (eqbP neg y x) := by cases c <;> cases d <;> rfl
@[simp] theorem sg87 {c d e : Bool} {x y : PV} {neg : Bool} : sel (an (an c d) e) (eqbP neg (gd c x) y) = sel (an (an c d) e) (eqbP neg x y) := by cases c <;> cases d <;> cases e <;> rfl
@[simp] theorem sg88 {c d e : Bool} {x y : PV} {neg : Bool} : sel (an (an c d) e) (eqbP neg y (gd c x)) = sel (an (an c d) e) (eqbP neg y x) := by cases c <;> cases d <;> cases e <;> rfl
@[simp] theorem sg89 {c d e : Bool} {x y : PV} {neg : Bool} : sel (an (an c d) e) (eqbP neg (gd (an c d) x) y) = sel (an (an c d) e) (eqbP neg x y) := by cases c <;> cases d <;> cases e <;> rfl
@[simp] theorem sg90 {c d e : Bool} {x y : PV} {neg : Bool} : sel (an (an c d) e) (eqbP neg y (gd (an c d) x)) = sel (an (an c d) e) (eqbP neg y x) := by cases c <;> cases d <;> cases e <;> rfl
@[simp] theorem sg91 {c : Bool} {x y : PV}  : sel c (idxsP (gd c x) y) = sel c (idxsP x y) := by cases c <;> rfl
@[simp] theorem sg92 {c : Bool} {x y : PV}  : sel c (idxsP y (gd c x)) = sel c (idxsP y x) := by cases c <;> rfl
@[simp] theorem sg93 {c d : Bool} {x y : PV}  : sel (an c d) (idxsP (gd c x) y) = sel (an c d) (idxsP x y) := by cases c <;> cases d <;> rfl
@[simp] theorem sg94 {c d : Bool} {x y : PV}  : sel (an c d) (idxsP y (gd c x)) = sel (an c d) (idxsP y x) := by cases c <;> cases d <;> rfl
@[simp] theorem sg95 {c d : Bool} {x y : PV}  : sel (an c d) (idxsP (gd d x) y) = sel (an c d) (idxsP x y) := by cases c <;> cases d <;> rfl
@[simp] theorem sg96 {c d : Bool} {x y : PV}  : sel (an c d) (idxsP y (gd d x)) = sel (an c d) (idxsP y x) := by cases c <;> cases d <;> rfl
@[simp] theorem sg97 {c d e : Bool} {x y : PV}  : sel (an (an c d) e) (idxsP (gd c x) y) = sel (an (an c d) e) (idxsP x y) := by cases c <;> cases d <;> cases e <;> rfl
@[simp] theorem sg98 {c d e : Bool} {x y : PV}  : sel (an (an c d) e) (idxsP y (gd c x)) = sel (an (an c d) e) (idxsP y x) := by cases c <;> cases d <;> cases e <;> rfl
@[simp] theorem sg99 {c d e : Bool} {x y : PV}  : sel (an (an c d) e) (idxsP (gd (an c d) x) y) = sel (an (an c d) e) (idxsP x y) := by cases c <;> cases d <;> cases e <;> rfl
@[simp] theorem sg100 {c d e : Bool} {x y : PV}  : sel (an (an c d) e) (idxsP y (gd (an c d) x)) = sel (an (an c d) e) (idxsP y x) := by cases c <;> cases d <;> cases e <;> rfl
@[simp] theorem sg101 {c : Bool} {x y : PV} {len n : Nat} {ag : Bool} : sel c (idxaP len n ag (gd c x) y) = sel c (idxaP len n ag x y) := by cases c <;> rfl
@[simp] theorem sg102 {c : Bool} {x y : PV} {len n : Nat} {ag : Bool} : sel c (idxaP len n ag y (gd c x)) = sel c (idxaP len n ag y x) := by cases c <;> rfl
@[simp] theorem sg103 {c d : Bool} {x y : PV} {len n : Nat} {ag : Bool} : sel (an c d) (idxaP len n ag (gd c x) y) = sel (an c d) (idxaP len n ag x y) := by cases c <;> cases d <;> rfl
@[simp] theorem sg104 {c d : Bool} {x y : PV} {len n : Nat} {ag : Bool} : sel (an c d) (idxaP len n ag y (gd c x)) = sel (an c d) (idxaP len n ag y x) := by cases c <;> cases d <;> rfl
@[simp] theorem sg105 {c d : Bool} {x y : PV} {len n : Nat} {ag : Bool} : sel (an c d) (idxaP len n ag (gd d x) y) = sel (an c d) (idxaP len n ag x y) := by cases c <;> cases d <;> rfl
@[simp] theorem sg106 {c d : Bool} {x y : PV} {len n : Nat} {ag : Bool} : sel (an c d) (idxaP len n ag y (gd d x)) = sel (an c d) (idxaP len n ag y x) := by cases c <;> cases d <;> rfl
@[simp] theorem sg107 {c d e : Bool} {x y : PV} {len n : Nat} {ag : Bool} : sel (an (an c d) e) (idxaP len n ag (gd c x) y) = sel (an (an c d) e) (idxaP len n ag x y) := by cases c <;> cases d <;> cases e <;> rfl
@[simp] theorem sg108 {c d e : Bool} {x y : PV} {len n : Nat} {ag : Bool} : sel (an (an c d) e) (idxaP len n ag y (gd c x)) = sel (an (an c d) e) (idxaP len n ag y x) := by cases c <;> cases d <;> cases e <;> rfl
@[simp] theorem sg109 {c d e : Bool} {x y : PV} {len n : Nat} {ag : Bool} : sel (an (an c d) e) (idxaP len n ag (gd (an c d) x) y) = sel (an (an c d) e) (idxaP len n ag x y) := by cases c <;> cases d <;> cases e <;> rfl
@[simp] theorem sg110 {c d e : Bool} {x y : PV} {len n : Nat} {ag : Bool} : sel (an (an c d) e) (idxaP len n ag y (gd (an c d) x)) = sel (an (an c d) e) (idxaP len n ag y x) := by cases c <;> cases d <;> cases e <;> rfl
@[simp] theorem sg111 {c : Bool} {x y : PV} {sz : Nat} : sel c (iaddrP sz (gd c x) y) = sel c (iaddrP sz x y) := by cases c <;> rfl
@[simp] theorem sg112 {c : Bool} {x y : PV} {sz : Nat} : sel c (iaddrP sz y (gd c x)) = sel c (iaddrP sz y x) := by cases c <;> rfl
@[simp] theorem sg113 {c d : Bool} {x y : PV} {sz : Nat} : sel (an c d) (iaddrP sz (gd c x) y) = sel (an c d) (iaddrP sz x y) := by cases c <;> cases d <;> rfl
@[simp] theorem sg114 {c d : Bool} {x y : PV} {sz : Nat} : sel (an c d) (iaddrP sz y (gd c x)) = sel (an c d) (iaddrP sz y x) := by cases c <;> cases d <;> rfl
@[simp] theorem sg115 {c d : Bool} {x y : PV} {sz : Nat} : sel (an c d) (iaddrP sz (gd d x) y) = sel (an c d) (iaddrP sz x y) := by cases c <;> cases d <;> rfl
@[simp] theorem sg116 {c d : Bool} {x y : PV} {sz : Nat} : sel (an c d) (iaddrP sz y (gd d x)) = sel (an c d) (iaddrP sz y x) := by cases c <;> cases d <;> rfl
@[simp] theorem sg117 {c d e : Bool} {x y : PV} {sz : Nat} : sel (an (an c d) e) (iaddrP sz (gd c x) y) = sel (an (an c d) e) (iaddrP sz x y) := by cases c <;> cases d <;> cases e <;> rfl
@[simp] theorem sg118 {c d e : Bool} {x y : PV} {sz : Nat} : sel (an (an c d) e) (iaddrP sz y (gd c x)) = sel (an (an c d) e) (iaddrP sz y x) := by cases c <;> cases d <;> cases e <;> rfl
@[simp] theorem sg119 {c d e : Bool} {x y : PV} {sz : Nat} : sel (an (an c d) e) (iaddrP sz (gd (an c d) x) y) = sel (an (an c d) e) (iaddrP sz x y) := by cases c <;> cases d <;> cases e <;> rfl
@[simp] theorem sg120 {c d e : Bool} {x y : PV} {sz : Nat} : sel (an (an c d) e) (iaddrP sz y (gd (an c d) x)) = sel (an (an c d) e) (iaddrP sz y x) := by cases c <;> cases d <;> cases e <;> rfl
@[simp] theorem sg121 {c : Bool} {x y : PV} {len sz : Nat} : sel c (iaddraP len sz (gd c x) y) = sel c (iaddraP len sz x y) := by cases c <;> rfl
@[simp] theorem sg122 {c : Bool} {x y : PV} {len sz : Nat} : sel c (iaddraP len sz y (gd c x)) = sel c (iaddraP len sz y x) := by cases c <;> rfl
@[simp] theorem sg123 {c d : Bool} {x y : PV} {len sz : Nat} : sel (an c d) (iaddraP len sz (gd c x) y) = sel (an c d) (iaddraP len sz x y) := by cases c <;> cases d <;> rfl
@[simp] theorem sg124 {c d : Bool} {x y : PV} {len sz : Nat} : sel (an c d) (iaddraP len sz y (gd c x)) = sel (an c d) (iaddraP len sz y x) := by cases c <;> cases d <;> rfl
@[simp] theorem sg125 {c d : Bool} {x y : PV} {len sz : Nat} : sel (an c d) (iaddraP len sz (gd d x) y) = sel (an c d) (iaddraP len sz x y) := by cases c <;> cases d <;> rfl
@[simp] theorem sg126 {c d : Bool} {x y : PV} {len sz : Nat} : sel (an c d) (iaddraP len sz y (gd d x)) = sel (an c d) (iaddraP len sz y x) := by cases c <;> cases d <;> rfl
@[simp] theorem sg127 {c d e : Bool} {x y : PV} {len sz : Nat} : sel (an (an c d) e) (iaddraP len sz (gd c x) y) = sel (an (an c d) e) (iaddraP len sz x y) := by cases c <;> cases d <;> cases e <;> rfl
@[simp] theorem sg128 {c d e : Bool} {x y : PV} {len sz : Nat} : sel (an (an c d) e) (iaddraP len sz y (gd c x)) = sel (an (an c d) e) (iaddraP len sz y x) := by cases c <;> cases d <;> cases e <;> rfl
@[simp] theorem sg129 {c d e : Bool} {x y : PV} {len sz : Nat} : sel (an (an c d) e) (iaddraP len sz (gd (an c d) x) y) = sel (an (an c d) e) (iaddraP len sz x y) := by cases c <;> cases d <;> cases e <;> rfl
@[simp] theorem sg130 {c d e : Bool} {x y : PV} {len sz : Nat} : sel (an (an c d) e) (iaddraP len sz y (gd (an c d) x)) = sel (an (an c d) e) (iaddraP len sz y x) := by cases c <;> cases d <;> cases e <;> rfl
@[simp] theorem sg131 {c : Bool} {x y : PV} {mx : Bool} : sel c (mnmxP mx (gd c x) y) = sel c (mnmxP mx x y) := by cases c <;> rfl
@[simp] theorem sg132 {c : Bool} {x y : PV} {mx : Bool} : sel c (mnmxP mx y (gd c x)) = sel c (mnmxP mx y x) := by cases c <;> rfl
@[simp] theorem sg133 {c d : Bool} {x y : PV} {mx : Bool} : sel (an c d) (mnmxP mx (gd c x) y) = sel (an c d) (mnmxP mx x y) := by cases c <;> cases d <;> rfl
@[simp] theorem sg134 {c d : Bool} {x y : PV} {mx : Bool} : sel (an c d) (mnmxP mx y (gd c x)) = sel (an c d) (mnmxP mx y x) := by cases c <;> cases d <;> rfl
@[simp] theorem sg135 {c d : Bool} {x y : PV} {mx : Bool} : sel (an c d) (mnmxP mx (gd d x) y) = sel (an c d) (mnmxP mx x y) := by cases c <;> cases d <;> rfl
@[simp] theorem sg136 {c d : Bool} {x y : PV} {mx : Bool} : sel (an c d) (mnmxP mx y (gd d x)) = sel (an c d) (mnmxP mx y x) := by cases c <;> cases d <;> rfl
@[simp] theorem sg137 {c d e : Bool} {x y : PV} {mx : Bool} : sel (an (an c d) e) (mnmxP mx (gd c x) y) = sel (an (an c d) e) (mnmxP mx x y) := by cases c <;> cases d <;> cases e <;> rfl
@[simp] theorem sg138 {c d e : Bool} {x y : PV} {mx : Bool} : sel (an (an c d) e) (mnmxP mx y (gd c x)) = sel (an (an c d) e) (mnmxP mx y x) := by cases c <;> cases d <;> cases e <;> rfl
@[simp] theorem sg139 {c d e : Bool} {x y : PV} {mx : Bool} : sel (an (an c d) e) (mnmxP mx (gd (an c d) x) y) = sel (an (an c d) e) (mnmxP mx x y) := by cases c <;> cases d <;> cases e <;> rfl
@[simp] theorem sg140 {c d e : Bool} {x y : PV} {mx : Bool} : sel (an (an c d) e) (mnmxP mx y (gd (an c d) x)) = sel (an (an c d) e) (mnmxP mx y x) := by cases c <;> cases d <;> cases e <;> rfl
@[simp] theorem sg141 {c : Bool} {x y : PV} {neg isb : Bool} {n : Nat} : sel c (eqaP neg isb n (gd c x) y) = sel c (eqaP neg isb n x y) := by cases c <;> rfl
@[simp] theorem sg142 {c : Bool} {x y : PV} {neg isb : Bool} {n : Nat} : sel c (eqaP neg isb n y (gd c x)) = sel c (eqaP neg isb n y x) := by cases c <;> rfl
@[simp] theorem sg143 {c d : Bool} {x y : PV} {neg isb : Bool} {n : Nat} : sel (an c d) (eqaP neg isb n (gd c x) y) = sel (an c d) (eqaP neg isb n x y) := by cases c <;> cases d <;> rfl
@[simp] theorem sg144 {c d : Bool} {x y : PV} {neg isb : Bool} {n : Nat} : sel (an c d) (eqaP neg isb n y (gd c x)) = sel (an c d) (eqaP neg isb n y x) := by cases c <;> cases d <;> rfl
@[simp] theorem sg145 {c d : Bool} {x y : PV} {neg isb : Bool} {n : Nat} : sel (an c d) (eqaP neg isb n (gd d x) y) = sel (an c d) (eqaP neg isb n x y) := by cases c <;> cases d <;> rfl
@[simp] theorem sg146 {c d : Bool} {x y : PV} {neg isb : Bool} {n : Nat} : sel (an c d) (eqaP neg isb n y (gd d x)) = sel (an c d) (eqaP neg isb n y x) := by cases c <;> cases d <;> rfl
@[simp] theorem sg147 {c d e : Bool} {x y : PV} {neg isb : Bool} {n : Nat} : sel (an (an c d) e) (eqaP neg isb n (gd c x) y) = sel (an (an c d) e) (eqaP neg isb n x y) := by cases c <;> cases d <;> cases e <;> rfl
@[simp] theorem sg148 {c d e : Bool} {x y : PV} {neg isb : Bool} {n : Nat} : sel (an (an c d) e) (eqaP neg isb n y (gd c x)) = sel (an (an c d) e) (eqaP neg isb n y x) := by cases c <;> cases d <;> cases e <;> rfl
@[simp] theorem sg149 {c d e : Bool} {x y : PV} {neg isb : Bool} {n : Nat} : sel (an (an c d) e) (eqaP neg isb n (gd (an c d) x) y) = sel (an (an c d) e) (eqaP neg isb n x y) := by cases c <;> cases d <;> cases e <;> rfl
@[simp] theorem sg150 {c d e : Bool} {x y : PV} {neg isb : Bool} {n : Nat} : sel (an (an c d) e) (eqaP neg isb n y (gd (an c d) x)) = sel (an (an c d) e) (eqaP neg isb n y x) := by cases c <;> cases d <;> cases e <;> rfl
@[simp] theorem sg151 {c : Bool} {x : PV} : gd c (gd c x) = gd c x := by cases c <;> rfl
@[simp] theorem sg152 {c : Bool} {a b p : PV} : sel c (pickP (gd c a) b p) = sel c (pickP a b p) := by cases c <;> rfl
@[simp] theorem sg153 {c : Bool} {a b p : PV} : sel c (pickP a (gd c b) p) = sel c (pickP a b p) := by cases c <;> rfl
@[simp] theorem sg154 {c : Bool} {a b p : PV} : sel c (pickP a b (gd c p)) = sel c (pickP a b p) := by cases c <;> rfl
@[simp] theorem sg155 {c d : Bool} {x : PV} : gd (an c d) (gd c x) = gd (an c d) x := by cases c <;> cases d <;> rfl
@[simp] theorem sg156 {c d : Bool} {a b p : PV} : sel (an c d) (pickP (gd c a) b p) = sel (an c d) (pickP a b p) := by cases c <;> cases d <;> rfl
@[simp] theorem sg157 {c d : Bool} {a b p : PV} : sel (an c d) (pickP a (gd c b) p) = sel (an c d) (pickP a b p) := by cases c <;> cases d <;> rfl
@[simp] theorem sg158 {c d : Bool} {a b p : PV} : sel (an c d) (pickP a b (gd c p)) = sel (an c d) (pickP a b p) := by cases c <;> cases d <;> rfl
@[simp] theorem sg159 {c d : Bool} {x : PV} : gd (an c d) (gd d x) = gd (an c d) x := by cases c <;> cases d <;> rfl
@[simp] theorem sg160 {c d : Bool} {a b p : PV} : sel (an c d) (pickP (gd d a) b p) = sel (an c d) (pickP a b p) := by cases c <;> cases d <;> rfl
@[simp] theorem sg161 {c d : Bool} {a b p : PV} : sel (an c d) (pickP a (gd d b) p) = sel (an c d) (pickP a b p) := by cases c <;> cases d <;> rfl
@[simp] theorem sg162 {c d : Bool} {a b p : PV} : sel (an c d) (pickP a b (gd d p)) = sel (an c d) (pickP a b p) := by cases c <;> cases d <;> rfl
@[simp] theorem sg163 {c d e : Bool} {x : PV} : gd (an (an c d) e) (gd c x) = gd (an (an c d) e) x := by cases c <;> cases d <;> cases e <;> rfl
@[simp] theorem sg164 {c d e : Bool} {a b p : PV} : sel (an (an c d) e) (pickP (gd c a) b p) = sel (an (an c d) e) (pickP a b p) := by cases c <;> cases d <;> cases e <;> rfl
@[simp] theorem sg165 {c d e : Bool} {a b p : PV} : sel (an (an c d) e) (pickP a (gd c b) p) = sel (an (an c d) e) (pickP a b p) := by cases c <;> cases d <;> cases e <;> rfl
@[simp] theorem sg166 {c d e : Bool} {a b p : PV} : sel (an (an c d) e) (pickP a b (gd c p)) = sel (an (an c d) e) (pickP a b p) := by cases c <;> cases d <;> cases e <;> rfl
@[simp] theorem sg167 {c d e : Bool} {x : PV} : gd (an (an c d) e) (gd (an c d) x) = gd (an (an c d) e) x := by cases c <;> cases d <;> cases e <;> rfl
@[simp] theorem sg168 {c d e : Bool} {a b p : PV} : sel (an (an c d) e) (pickP (gd (an c d) a) b p) = sel (an (an c d) e) (pickP a b p) := by cases c <;> cases d <;> cases e <;> rfl
@[simp] theorem sg169 {c d e : Bool} {a b p : PV} : sel (an (an c d) e) (pickP a (gd (an c d) b) p) = sel (an (an c d) e) (pickP a b p) := by cases c <;> cases d <;> cases e <;> rfl
@[simp] theorem sg170 {c d e : Bool} {a b p : PV} : sel (an (an c d) e) (pickP a b (gd (an c d) p)) = sel (an (an c d) e) (pickP a b p) := by cases c <;> cases d <;> cases e <;> rfl
@[simp] theorem sg_pur1 {T : Tbl} {f : Nat} {c : Bool} {x : PV} : sel c (purV T f [gd c x]) = sel c (purV T f [x]) := by cases c <;> rfl
@[simp] theorem sg_pur2 {T : Tbl} {f : Nat} {c : Bool} {x y : PV} : sel c (purV T f [gd c x, y]) = sel c (purV T f [x, y]) := by cases c <;> rfl
@[simp] theorem sg_pur3 {T : Tbl} {f : Nat} {c : Bool} {x y : PV} : sel c (purV T f [x, gd c y]) = sel c (purV T f [x, y]) := by cases c <;> rfl
@[simp] theorem pick_gt {c : Bool} {a b : PV} : pickP (.bool c) (gd c a) b = pickP (.bool c) a b := by cases c <;> rfl
@[simp] theorem pick_gf {c : Bool} {a b : PV} : pickP (.bool c) a (gd (nt c) b) = pickP (.bool c) a b := by cases c <;> rfl
@[simp] theorem pick_sgt {g c : Bool} {a b : PV} : sel g (pickP (.bool c) (gd (an g c) a) b) = sel g (pickP (.bool c) a b) := by cases g <;> cases c <;> rfl
@[simp] theorem pick_sgf {g c : Bool} {a b : PV} : sel g (pickP (.bool c) a (gd (an g (nt c)) b)) = sel g (pickP (.bool c) a b) := by cases g <;> cases c <;> rfl

section
variable {T : Tbl} {K : List Kt} {fr : Fr} {S : St} {d t : Nat} {gb : Bool} {l : List POper}
theorem gs_val {op : POp} {q : Option PV} (h : stepV T fr S op = withSt S q) : gval T (.ops (⟨some d, op, some (t, gb)⟩ :: l) :: K) fr S = ob (selP (fr t) gb q) fun v => gval T (.ops l :: K) (upd fr d v) S := by
 rw [gval_guard]
 cases hv : fr t <;> try rfl
 ·rename_i c
  rw [grd_bool]
  cases c <;> cases gb <;> simp only [selP_t, selP_f, sel_true, sel_false, nt_true, nt_false, if_true, ob_some, Bool.false_eq_true, Bool.true_eq_false, if_false] <;> first | rfl | exact g_val h
 ·rename_i vs
  cases vs <;> rfl
@[simp] theorem gs_mov {x : Opd} : gval T (.ops (⟨some d, .mov x, some (t, gb)⟩ :: l) :: K) fr S = ob (selP (fr t) gb (some (ev fr x))) fun v => gval T (.ops l :: K) (upd fr d v) S := gs_val rfl
@[simp] theorem gs_mkif {t' : Nat} {x : Opd} : gval T (.ops (⟨some d, .mkif t' x, some (t, gb)⟩ :: l) :: K) fr S = ob (selP (fr t) gb (some (.iface t' (ev fr x)))) fun v => gval T (.ops l :: K) (upd fr d v) S := gs_val rfl
@[simp] theorem gs_mkfn {f : Nat} {caps : List Opd} : gval T (.ops (⟨some d, .mkfn f caps, some (t, gb)⟩ :: l) :: K) fr S = ob (selP (fr t) gb (some (.fn f (caps.map (ev fr))))) fun v => gval T (.ops l :: K) (upd fr d v) S := gs_val rfl
@[simp] theorem gs_pick {c a b : Opd} : gval T (.ops (⟨some d, .pick c a b, some (t, gb)⟩ :: l) :: K) fr S = ob (selP (fr t) gb (pickP (ev fr c) (ev fr a) (ev fr b))) fun v => gval T (.ops l :: K) (upd fr d v) S := gs_val rfl
@[simp] theorem gs_arith {o : BinOp} {x y : Opd} : gval T (.ops (⟨some d, .arith o x y, some (t, gb)⟩ :: l) :: K) fr S = ob (selP (fr t) gb (arith o (ev fr x) (ev fr y))) fun v => gval T (.ops l :: K) (upd fr d v) S := gs_val rfl
@[simp] theorem gs_un {o : UnOp} {x : Opd} : gval T (.ops (⟨some d, .un o x, some (t, gb)⟩ :: l) :: K) fr S = ob (selP (fr t) gb (unOp o (ev fr x))) fun v => gval T (.ops l :: K) (upd fr d v) S := gs_val rfl
@[simp] theorem gs_eqb {neg : Bool} {x y : Opd} : gval T (.ops (⟨some d, .eqb neg x y, some (t, gb)⟩ :: l) :: K) fr S = ob (selP (fr t) gb (eqbP neg (ev fr x) (ev fr y))) fun v => gval T (.ops l :: K) (upd fr d v) S := gs_val rfl
@[simp] theorem gs_eqn {neg : Bool} {k : NK} {x : Opd} : gval T (.ops (⟨some d, .eqn neg k x, some (t, gb)⟩ :: l) :: K) fr S = ob (selP (fr t) gb (eqnP neg k (ev fr x))) fun v => gval T (.ops l :: K) (upd fr d v) S := gs_val rfl
@[simp] theorem gs_nilck {x : Opd} : gval T (.ops (⟨some d, .nilck x, some (t, gb)⟩ :: l) :: K) fr S = ob (selP (fr t) gb (nilckP (ev fr x))) fun v => gval T (.ops l :: K) (upd fr d v) S := gs_val (by simp only [stepV, pstep, peval]; rfl)
@[simp] theorem gs_eqa {neg isb : Bool} {n : Nat} {x y : Opd} : gval T (.ops (⟨some d, .eqa neg isb n x y, some (t, gb)⟩ :: l) :: K) fr S = ob (selP (fr t) gb (eqaP neg isb n (ev fr x) (ev fr y))) fun v => gval T (.ops l :: K) (upd fr d v) S := gs_val (by simp only [stepV, pstep, peval]; rfl)
@[simp] theorem gs_eqs {neg : Bool} {n : Nat} {x y : Opd} : gval T (.ops (⟨some d, .eqs neg n x y, some (t, gb)⟩ :: l) :: K) fr S = ob (selP (fr t) gb (eqsP neg n (ev fr x) (ev fr y))) fun v => gval T (.ops l :: K) (upd fr d v) S := gs_val (by simp only [stepV, pstep, peval]; rfl)
@[simp] theorem gs_toInt {k : IntKind} {x : Opd} : gval T (.ops (⟨some d, .toInt k x, some (t, gb)⟩ :: l) :: K) fr S = ob (selP (fr t) gb (toIntP k (ev fr x))) fun v => gval T (.ops l :: K) (upd fr d v) S := gs_val (by simp only [stepV, pstep, peval]; rfl)
@[simp] theorem gs_strId {x : Opd} : gval T (.ops (⟨some d, .strId x, some (t, gb)⟩ :: l) :: K) fr S = ob (selP (fr t) gb (strIdP (ev fr x))) fun v => gval T (.ops l :: K) (upd fr d v) S := gs_val (by simp only [stepV, pstep, peval]; rfl)
@[simp] theorem gs_toStr {x : Opd} : gval T (.ops (⟨some d, .toStr x, some (t, gb)⟩ :: l) :: K) fr S = ob (selP (fr t) gb (toStrP (ev fr x))) fun v => gval T (.ops l :: K) (upd fr d v) S := gs_val rfl
@[simp] theorem gs_field {ag : Bool} {off n : Nat} {x : Opd} : gval T (.ops (⟨some d, .field ag off n x, some (t, gb)⟩ :: l) :: K) fr S = ob (selP (fr t) gb (fieldP ag off n (ev fr x))) fun v => gval T (.ops l :: K) (upd fr d v) S := gs_val (by simp only [stepV, pstep, peval]; rfl)
@[simp] theorem gs_build {z : List PV} {ps : List (Nat × Nat × Opd)} : gval T (.ops (⟨some d, .build z ps, some (t, gb)⟩ :: l) :: K) fr S = ob (selP (fr t) gb (peval fr (.build z ps))) fun v => gval T (.ops l :: K) (upd fr d v) S := gs_val rfl
@[simp] theorem gs_extract {i : Nat} {x : Opd} : gval T (.ops (⟨some d, .extract i x, some (t, gb)⟩ :: l) :: K) fr S = ob (selP (fr t) gb (extractP i (ev fr x))) fun v => gval T (.ops l :: K) (upd fr d v) S := gs_val (by simp only [stepV, pstep, peval]; rfl)
@[simp] theorem gs_assert {t' : Nat} {ok : Bool} {z : PV} {x : Opd} : gval T (.ops (⟨some d, .assert t' ok z x, some (t, gb)⟩ :: l) :: K) fr S = ob (selP (fr t) gb (assertP t' ok z (ev fr x))) fun v => gval T (.ops l :: K) (upd fr d v) S := gs_val (by simp only [stepV, pstep, peval]; rfl)
@[simp] theorem gs_idxs {x i : Opd} : gval T (.ops (⟨some d, .idxs x i, some (t, gb)⟩ :: l) :: K) fr S = ob (selP (fr t) gb (idxsP (ev fr x) (ev fr i))) fun v => gval T (.ops l :: K) (upd fr d v) S := gs_val (by simp only [stepV, pstep, peval]; rfl)
@[simp] theorem gs_idxa {len n : Nat} {ag : Bool} {x i : Opd} : gval T (.ops (⟨some d, .idxa len n ag x i, some (t, gb)⟩ :: l) :: K) fr S = ob (selP (fr t) gb (idxaP len n ag (ev fr x) (ev fr i))) fun v => gval T (.ops l :: K) (upd fr d v) S := gs_val (by simp only [stepV, pstep, peval]; rfl)
@[simp] theorem gs_slcs {lo hi : Option Opd} {x : Opd} : gval T (.ops (⟨some d, .slcs lo hi x, some (t, gb)⟩ :: l) :: K) fr S = ob (selP (fr t) gb (slcsP (evO fr lo) (evO fr hi) (ev fr x))) fun v => gval T (.ops l :: K) (upd fr d v) S := gs_val (by simp only [stepV, pstep, peval]; rfl)
@[simp] theorem gs_slc {sz : Nat} {lo hi : Option Opd} {x : Opd} : gval T (.ops (⟨some d, .slc sz lo hi x, some (t, gb)⟩ :: l) :: K) fr S = ob (selP (fr t) gb (slcP sz (evO fr lo) (evO fr hi) (ev fr x))) fun v => gval T (.ops l :: K) (upd fr d v) S := gs_val (by simp only [stepV, pstep, peval]; rfl)
@[simp] theorem gs_slca {len sz : Nat} {lo hi : Option Opd} {x : Opd} : gval T (.ops (⟨some d, .slca len sz lo hi x, some (t, gb)⟩ :: l) :: K) fr S = ob (selP (fr t) gb (slcaP len sz (evO fr lo) (evO fr hi) (ev fr x))) fun v => gval T (.ops l :: K) (upd fr d v) S := gs_val (by simp only [stepV, pstep, peval]; rfl)
@[simp] theorem gs_faddr {off : Nat} {x : Opd} : gval T (.ops (⟨some d, .faddr off x, some (t, gb)⟩ :: l) :: K) fr S = ob (selP (fr t) gb (faddrP off (ev fr x))) fun v => gval T (.ops l :: K) (upd fr d v) S := gs_val (by simp only [stepV, pstep, peval]; rfl)
@[simp] theorem gs_iaddr {sz : Nat} {x i : Opd} : gval T (.ops (⟨some d, .iaddr sz x i, some (t, gb)⟩ :: l) :: K) fr S = ob (selP (fr t) gb (iaddrP sz (ev fr x) (ev fr i))) fun v => gval T (.ops l :: K) (upd fr d v) S := gs_val (by simp only [stepV, pstep, peval]; rfl)
@[simp] theorem gs_iaddra {len sz : Nat} {x i : Opd} : gval T (.ops (⟨some d, .iaddra len sz x i, some (t, gb)⟩ :: l) :: K) fr S = ob (selP (fr t) gb (iaddraP len sz (ev fr x) (ev fr i))) fun v => gval T (.ops l :: K) (upd fr d v) S := gs_val (by simp only [stepV, pstep, peval]; rfl)
@[simp] theorem gs_len {st : Bool} {x : Opd} : gval T (.ops (⟨some d, .len st x, some (t, gb)⟩ :: l) :: K) fr S = ob (selP (fr t) gb (lenP st (ev fr x))) fun v => gval T (.ops l :: K) (upd fr d v) S := gs_val (by have h : stepV T fr S (.len st x) = withSt S (peval fr (.len st x)) := by { cases st <;> rfl }; rw [h, lenP_eq])
@[simp] theorem gs_mnmx {mx : Bool} {x y : Opd} : gval T (.ops (⟨some d, .mnmx mx x y, some (t, gb)⟩ :: l) :: K) fr S = ob (selP (fr t) gb (mnmxP mx (ev fr x) (ev fr y))) fun v => gval T (.ops l :: K) (upd fr d v) S := gs_val (by simp only [stepV, pstep, peval]; rfl)
@[simp] theorem gs_store {d : Option Nat} {n : Nat} {a v : Opd} : gval T (.ops (⟨d, .store n a v, some (t, gb)⟩ :: l) :: K) fr S = grd (fr t) gb (gval T (.ops (⟨d, .store n a v, none⟩ :: l) :: K) fr S) (gval T (.ops l :: K) (updO fr d (.tup [])) S) := gval_guard
@[simp] theorem gs_stb {d : Option Nat} {q : List Nat} {n : Nat} {a v : Opd} : gval T (.ops (⟨d, .stb q n a v, some (t, gb)⟩ :: l) :: K) fr S = grd (fr t) gb (gval T (.ops (⟨d, .stb q n a v, none⟩ :: l) :: K) fr S) (gval T (.ops l :: K) (updO fr d (.tup [])) S) := gval_guard
@[simp] theorem gs_box {d : Option Nat} {ro : Bool} {x : Opd} : gval T (.ops (⟨d, .box ro x, some (t, gb)⟩ :: l) :: K) fr S = grd (fr t) gb (gval T (.ops (⟨d, .box ro x, none⟩ :: l) :: K) fr S) (gval T (.ops l :: K) (updO fr d (.tup [])) S) := gval_guard
@[simp] theorem gs_alloc {d : Option Nat} {ro : Bool} {z : List PV} : gval T (.ops (⟨d, .alloc ro z, some (t, gb)⟩ :: l) :: K) fr S = grd (fr t) gb (gval T (.ops (⟨d, .alloc ro z, none⟩ :: l) :: K) fr S) (gval T (.ops l :: K) (updO fr d (.tup [])) S) := gval_guard
@[simp] theorem gs_bsl {d : Option Nat} {ro : Bool} {ze : PV} {n : Nat} {ps : List (Nat × Opd)} : gval T (.ops (⟨d, .bsl ro ze n ps, some (t, gb)⟩ :: l) :: K) fr S = grd (fr t) gb (gval T (.ops (⟨d, .bsl ro ze n ps, none⟩ :: l) :: K) fr S) (gval T (.ops l :: K) (updO fr d (.tup [])) S) := gval_guard
@[simp] theorem gs_toBytes {d : Option Nat} {ro : Bool} {x : Opd} : gval T (.ops (⟨d, .toBytes ro x, some (t, gb)⟩ :: l) :: K) fr S = grd (fr t) gb (gval T (.ops (⟨d, .toBytes ro x, none⟩ :: l) :: K) fr S) (gval T (.ops l :: K) (updO fr d (.tup [])) S) := gval_guard
@[simp] theorem gs_mks {d : Option Nat} {sz b : Nat} {c : Opd} : gval T (.ops (⟨d, .mks sz b c, some (t, gb)⟩ :: l) :: K) fr S = grd (fr t) gb (gval T (.ops (⟨d, .mks sz b c, none⟩ :: l) :: K) fr S) (gval T (.ops l :: K) (updO fr d (.tup [])) S) := gval_guard
@[simp] theorem gs_app {d : Option Nat} {sz b : Nat} {s x : Opd} : gval T (.ops (⟨d, .app sz b s x, some (t, gb)⟩ :: l) :: K) fr S = grd (fr t) gb (gval T (.ops (⟨d, .app sz b s x, none⟩ :: l) :: K) fr S) (gval T (.ops l :: K) (updO fr d (.tup [])) S) := gval_guard
@[simp] theorem gs_gapp {d : Option Nat} {sz b : Nat} {s x : Opd} : gval T (.ops (⟨d, .gapp sz b s x, some (t, gb)⟩ :: l) :: K) fr S = grd (fr t) gb (gval T (.ops (⟨d, .gapp sz b s x, none⟩ :: l) :: K) fr S) (gval T (.ops l :: K) (updO fr d (.tup [])) S) := gval_guard
@[simp] theorem gs_toStrO {d : Option Nat} {x : Opd} : gval T (.ops (⟨d, .toStrO x, some (t, gb)⟩ :: l) :: K) fr S = grd (fr t) gb (gval T (.ops (⟨d, .toStrO x, none⟩ :: l) :: K) fr S) (gval T (.ops l :: K) (updO fr d (.tup [])) S) := gval_guard
@[simp] theorem gs_call {d : Option Nat} {m : CM} {f : Nat} {xs : List Opd} : gval T (.ops (⟨d, .call m f xs, some (t, gb)⟩ :: l) :: K) fr S = grd (fr t) gb (gval T (.ops (⟨d, .call m f xs, none⟩ :: l) :: K) fr S) (gval T (.ops l :: K) (updO fr d (.tup [])) S) := gval_guard
@[simp] theorem gs_callv {d : Option Nat} {m : CM} {x : Opd} {xs : List Opd} : gval T (.ops (⟨d, .callv m x xs, some (t, gb)⟩ :: l) :: K) fr S = grd (fr t) gb (gval T (.ops (⟨d, .callv m x xs, none⟩ :: l) :: K) fr S) (gval T (.ops l :: K) (updO fr d (.tup [])) S) := gval_guard
@[simp] theorem gs_inv {d : Option Nat} {cm : CM} {m : Nat} {x : Opd} {xs : List Opd} : gval T (.ops (⟨d, .inv cm m x xs, some (t, gb)⟩ :: l) :: K) fr S = grd (fr t) gb (gval T (.ops (⟨d, .inv cm m x xs, none⟩ :: l) :: K) fr S) (gval T (.ops l :: K) (updO fr d (.tup [])) S) := gval_guard
theorem load_step {ag : Bool} {n : Nat} {mix : Bool} {x : Opd} : stepV T fr S (.load ag n mix x) = withSt S (if mix then (match ev fr x with | .ref cs => partOf ag n cs | _ => none) else loadP S ag n (ev fr x)) := by
 cases mix
 ·simp only [stepV, pstep, Bool.false_eq_true, if_false]
  cases ev fr x <;> simp only [loadP] <;> try rfl
  case ptr id off =>
   cases h : S.objs[id]? with
   | none => rfl
   | some cs => cases h2 : partOf ag n (cs.drop off) <;> simp [h2, withSt]
 ·rfl
@[simp] theorem gs_load {ag : Bool} {n : Nat} {mix : Bool} {x : Opd} : gval T (.ops (⟨some d, .load ag n mix x, some (t, gb)⟩ :: l) :: K) fr S = ob (selP (fr t) gb (if mix then (match ev fr x with | .ref cs => partOf ag n cs | _ => none) else loadP S ag n (ev fr x))) fun v => gval T (.ops l :: K) (upd fr d v) S := gs_val load_step
@[simp 1100] theorem gs_pur {f : Nat} {xs : List Opd} : gval T (.ops (⟨some d, .call .pur f xs, some (t, gb)⟩ :: l) :: K) fr S = ob (selP (fr t) gb (purV T f (xs.map (ev fr)))) fun v => gval T (.ops l :: K) (upd fr d v) S := by
 refine gs_val ?_
 show aCall (cval T) .pur f _ S = _
 rw [aCall_pur]
 unfold purV
 split <;> rfl
end
@[simp] theorem aCall_std {T : Tbl} {f : Nat} {args : List PV} {S : St} : aCall (cval T) .std f args S = cval T f args S := rfl
@[simp] theorem withSt_some' {S : St} {v : PV} : withSt S (some v) = some (v, S) := rfl
@[simp] theorem withSt_none' {S : St} : withSt S none = none := rfl
@[simp] theorem onlyVal_some {r : PV} {S : St} : onlyVal (some (r, S)) = if r.free then some r.frz else none := rfl
theorem pval_of {T : Tbl} {f : Nat} {args : List PV} {r : PV} {S : St} (h : cval T f args St0 = some (r, S)) (hf : r.free = true) : pval T f args = some r.frz := by
 rw [pval, h, onlyVal_some, if_pos hf]

theorem cval_fn {T : Tbl} {f : Nat} {c : PCodeFn} (hf : T.fn f = some (.code c)) {args : List PV} {S : St} {x : PV × St} (ha : args.length = c.params)
  (h : ob (gval T [.code c.body] (argsFr args) S) (fun y => ob (resAll y.1 y.2 c.results) fun vs => some (finish c.raw S y.2 (packed vs))) = some x) : cval T f args S = some x := by
 refine cval_code c hf ha ?_
 cases hg : gval T [.code c.body] (argsFr args) S with
 | none => rw [hg] at h; cases h
 | some y =>
  rw [hg] at h
  simp only [ob_some] at h
  simp only [Option.bind_some]
  cases hr : resAll y.1 y.2 c.results with
  | none => rw [hr] at h; cases h
  | some vs => rw [hr] at h; exact h

attribute [simp] argsFr resAll resOf packed
@[simp] theorem newArr_fst (S : St) (sz : Nat) (es : List PV) : (newArr S sz es).1 = .sl (some (S.tips.length, es.length)) es [] := rfl
@[simp] theorem newArr_objs (S : St) (sz : Nat) (es : List PV) : (newArr S sz es).2.objs = S.objs := rfl
@[simp] theorem newArr_tips (S : St) (sz : Nat) (es : List PV) : (newArr S sz es).2.tips = S.tips ++ [(es.length, sz)] := rfl

theorem wrap_i64 {n : Int} (h1 : -9223372036854775808 ≤ n) (h2 : n < 9223372036854775808) : IntKind.i64.wrap n = n := by
 have e : IntKind.i64.wrap n = if n % 18446744073709551616 ≥ 9223372036854775808 then n % 18446744073709551616 - 18446744073709551616 else n % 18446744073709551616 := by
  simp [IntKind.wrap, IntKind.bits, IntKind.signed]
 rw [e]
 split <;> omega
theorem wrap_len {a : Nat} (h : a < 9223372036854775807) : IntKind.i64.wrap ((a : Int) + 1) = ((a + 1 : Nat) : Int) := by
 rw [wrap_i64] <;> omega

theorem finish_pur {S1 : St} {r r' : PV} (h : sol S1.objs 0 solFuel r = some r') : finish false St0 S1 r = (r'.frz, St0) := by
 unfold finish
 simp only [Bool.false_eq_true, if_false]
 have h0 : St0.objs.length = 0 := rfl
 have h1 : St0.tips.length = 0 := rfl
 rw [h0, h, h1]
 simp [PV.beqLL, St0]
@[simp] theorem finish_pur_free {S1 : St} {r : PV} (h : r.free = true) : finish false St0 S1 r = (r.frz, St0) := by
 refine finish_pur ?_
 unfold solFuel sol
 rw [if_pos h]

def Acc (sz : Nat) (S : St) (v : PV) (es : List PV) : Prop :=
 (v = .nils ∧ es = []) ∨ ∃ id, v = .sl (some (id, es.length)) es [] ∧ S.tips[id]? = some (es.length, sz)
end Ps
