/- Walking with a post: what a run comes to fulfils it. -/
import Derived.Test.YtidloidlffjimaaWalk
import Derived.Test.YtidloidlffjimaaSimM
import Derived.Test.YtidloidlffjimaaSimSo
import Derived.Test.YtidloidlffjimaaSimOb
namespace Ps
set_option linter.unusedSimpArgs false
open Go
def Ok (x : Option (Fr × St)) (Q : Fr → St → Prop) : Prop := ∃ y, x = some y ∧ Q y.1 y.2

@[simp] theorem ok_some {y : Fr × St} {Q : Fr → St → Prop} : Ok (some y) Q ↔ Q y.1 y.2 := ⟨fun ⟨_, h, hq⟩ => by cases h; exact hq, fun h => ⟨y, rfl, h⟩⟩
@[simp] theorem ok_ite {c : Prop} [Decidable c] {a b : Option (Fr × St)} {Q : Fr → St → Prop} : Ok (if c then a else b) Q ↔ (c → Ok a Q) ∧ (¬ c → Ok b Q) := by
 by_cases h : c <;> simp [h]
theorem ok_br {c : Bool} {a b : Option (Fr × St)} {Q : Fr → St → Prop} (h1 : c = true → Ok a Q) (h2 : c = false → Ok b Q) : Ok (br (.bool c) a b) Q := by cases c <;> first | exact h1 rfl | exact h2 rfl
theorem ok_ret {fr : Fr} {S : St} {Q : Fr → St → Prop} (h : Q fr S) : Ok (some (fr, S)) Q := ⟨_, rfl, h⟩
theorem Ok.mono {x : Option (Fr × St)} {Q R : Fr → St → Prop} (h : Ok x Q) (k : ∀ fr S, Q fr S → R fr S) : Ok x R := by
 obtain ⟨y, h1, h2⟩ := h; exact ⟨y, h1, k _ _ h2⟩
@[congr] theorem ok_congr {x y : Option (Fr × St)} {Q : Fr → St → Prop} (h : x = y) : Ok x Q = Ok y Q := by rw [h]

def Ends (rs : List PRes) (raw : Bool) (S : St) (r : PV) (S2 : St) (fr : Fr) (S1 : St) : Prop := ∃ vs, resAll fr S1 rs = some vs ∧ finish raw S S1 (packed vs) = (r, S2)

theorem cval_ok' {T : Tbl} {f : Nat} {c : PCodeFn} (hf : T.fn f = some (.code c)) {args : List PV} {S S2 : St} {r : PV} (ha : args.length = c.params)
  (h : Ok (gval T [.code c.body] (argsFr args) S) (Ends c.results c.raw S r S2)) : cval T f args S = some (r, S2) := by
 obtain ⟨y, h1, vs, h2, h3⟩ := h
 refine cval_fn hf ha ?_
 rw [h1, ob_some, h2, ob_some, h3]

theorem ends_nil {S S1 S2 : St} {r : PV} {fr : Fr} {raw : Bool} : Ends [] raw S r S2 fr S1 ↔ finish raw S S1 (.tup []) = (r, S2) := ⟨fun ⟨_, h, k⟩ => by cases h; exact k, fun k => ⟨_, rfl, k⟩⟩
@[simp] theorem ends1 {S S1 S2 : St} {r : PV} {fr : Fr} {raw : Bool} {t : Nat} : Ends [.tmp t] raw S r S2 fr S1 ↔ finish raw S S1 (fr t) = (r, S2) := ⟨fun ⟨_, h, k⟩ => by cases h; exact k, fun k => ⟨_, rfl, k⟩⟩
@[simp] theorem ends2 {S S1 S2 : St} {r : PV} {fr : Fr} {raw : Bool} {t u : Nat} : Ends [.tmp t, .tmp u] raw S r S2 fr S1 ↔ finish raw S S1 (.tup [fr t, fr u]) = (r, S2) := ⟨fun ⟨_, h, k⟩ => by cases h; exact k, fun k => ⟨_, rfl, k⟩⟩
@[simp] theorem ends3 {S S1 S2 : St} {r : PV} {fr : Fr} {raw : Bool} {t u v : Nat} : Ends [.tmp t, .tmp u, .tmp v] raw S r S2 fr S1 ↔ finish raw S S1 (.tup [fr t, fr u, fr v]) = (r, S2) := ⟨fun ⟨_, h, k⟩ => by cases h; exact k, fun k => ⟨_, rfl, k⟩⟩

theorem cval_ex {T : Tbl} {f : Nat} {c : PCodeFn} (hf : T.fn f = some (.code c)) {args : List PV} {S : St} (ha : args.length = c.params) {R : PV → St → Prop}
  (h : Ok (gval T [.code c.body] (argsFr args) S) (fun fr S1 => ∃ vs, resAll fr S1 c.results = some vs ∧ R (finish c.raw S S1 (packed vs)).1 (finish c.raw S S1 (packed vs)).2)) :
  ∃ r S2, cval T f args S = some (r, S2) ∧ R r S2 := by
 obtain ⟨y, h1, vs, h2, h3⟩ := h
 refine ⟨_, _, ?_, h3⟩
 refine cval_fn hf ha ?_
 rw [h1, ob_some, h2, ob_some]

section
variable {k : IntKind} {a b : Int} {s t : List UInt8}
@[simp] theorem ar_add : arith .add (.int k a) (.int k b) = some (.int k (k.wrap (a + b))) := by simp [arith, isShift, intOp]
@[simp] theorem ar_sub : arith .sub (.int k a) (.int k b) = some (.int k (k.wrap (a - b))) := by simp [arith, isShift, intOp]
@[simp] theorem ar_mul : arith .mul (.int k a) (.int k b) = some (.int k (k.wrap (a * b))) := by simp [arith, isShift, intOp]
@[simp] theorem ar_quo : arith .quo (.int k a) (.int k b) = if b = 0 then none else some (.int k (k.wrap (a.tdiv b))) := by simp [arith, isShift, intOp]
@[simp] theorem ar_rem : arith .rem (.int k a) (.int k b) = if b = 0 then none else some (.int k (a.tmod b)) := by simp [arith, isShift, intOp]
@[simp] theorem ar_eql : arith .eql (.int k a) (.int k b) = some (.bool (a == b)) := by simp [arith, isShift, intOp]
@[simp] theorem ar_neq : arith .neq (.int k a) (.int k b) = some (.bool (a != b)) := by simp [arith, isShift, intOp]
@[simp] theorem ar_lss : arith .lss (.int k a) (.int k b) = some (.bool (a < b)) := by simp [arith, isShift, intOp]
@[simp] theorem ar_leq : arith .leq (.int k a) (.int k b) = some (.bool (a ≤ b)) := by simp [arith, isShift, intOp]
@[simp] theorem ar_gtr : arith .gtr (.int k a) (.int k b) = some (.bool (a > b)) := by simp [arith, isShift, intOp]
@[simp] theorem ar_geq : arith .geq (.int k a) (.int k b) = some (.bool (a ≥ b)) := by simp [arith, isShift, intOp]
@[simp] theorem ar_seql : arith .eql (.str s) (.str t) = some (.bool (s == t)) := rfl
@[simp] theorem ar_sneq : arith .neq (.str s) (.str t) = some (.bool !(s == t)) := rfl
@[simp] theorem ar_slss : arith .lss (.str s) (.str t) = some (.bool (Op.bytesLess s t)) := rfl
@[simp] theorem ar_sleq : arith .leq (.str s) (.str t) = some (.bool (Op.bytesLess s t || s == t)) := rfl
@[simp] theorem ar_sgtr : arith .gtr (.str s) (.str t) = some (.bool !(Op.bytesLess s t || s == t)) := rfl
@[simp] theorem ar_sgeq : arith .geq (.str s) (.str t) = some (.bool !(Op.bytesLess s t)) := rfl
@[simp] theorem un_not {b : Bool} : unOp .not (.bool b) = some (.bool !b) := rfl
@[simp] theorem un_xor {n : Int} : unOp .xor (.int k n) = some (.int k (k.wrap (BitVec.ofInt k.bits (if k.signed then -1 else k.max) ^^^ BitVec.ofInt k.bits n).toNat)) := rfl
@[simp] theorem un_neg {n : Int} : unOp .neg (.int k n) = some (.int k (k.wrap (0 - n))) := rfl
end
@[simp] theorem objs_last (l : List (List PV)) (x : List PV) : (l ++ [x])[l.length]? = some x := by simp
@[simp] theorem set_last {α : Type} (l : List α) (x y : α) : (l ++ [x]).set l.length y = l ++ [y] := by simp

def Grows (S S' : St) : Prop := ∃ o t, S' = ⟨S.objs ++ o, S.tips ++ t⟩

theorem Grows.refl (S : St) : Grows S S := ⟨[], [], by simp⟩
theorem Grows.trans {S S1 S2 : St} (h : Grows S S1) (k : Grows S1 S2) : Grows S S2 := by
 obtain ⟨o, t, rfl⟩ := h
 obtain ⟨o', t', rfl⟩ := k
 exact ⟨o ++ o', t ++ t', by simp⟩
theorem Grows.obj {S S1 : St} (h : Grows S S1) (x : List PV) : Grows S ⟨S1.objs ++ [x], S1.tips⟩ := by
 obtain ⟨o, t, rfl⟩ := h
 exact ⟨o ++ [x], t, by simp⟩
theorem Grows.objs {S S1 : St} (h : Grows S S1) (x : List (List PV)) : Grows S ⟨S1.objs ++ x, S1.tips⟩ := by
 obtain ⟨o, t, rfl⟩ := h
 exact ⟨o ++ x, t, by simp⟩
theorem Grows.arrs {S S1 : St} (h : Grows S S1) (x : List (Nat × Nat)) : Grows S ⟨S1.objs, S1.tips ++ x⟩ := by
 obtain ⟨o, t, rfl⟩ := h
 exact ⟨o, t ++ x, by simp⟩
theorem Grows.arr {S S1 : St} (h : Grows S S1) (x : Nat × Nat) : Grows S ⟨S1.objs, S1.tips ++ [x]⟩ := by
 obtain ⟨o, t, rfl⟩ := h
 exact ⟨o, t ++ [x], by simp⟩
theorem Grows.get {S S1 : St} (h : Grows S S1) {i : Nat} {x : List PV} (e : S.objs[i]? = some x) : S1.objs[i]? = some x := by
 obtain ⟨o, t, rfl⟩ := h
 have := (List.getElem?_eq_some_iff.1 e).1
 simp only
 rw [List.getElem?_append_left this]; exact e
theorem Grows.tip {S S1 : St} (h : Grows S S1) {i : Nat} {x : Nat × Nat} (e : S.tips[i]? = some x) : S1.tips[i]? = some x := by
 obtain ⟨o, t, rfl⟩ := h
 have := (List.getElem?_eq_some_iff.1 e).1
 simp only
 rw [List.getElem?_append_left this]; exact e

theorem fin_grows {S S1 : St} {r r' : PV} (h : Grows S S1) (hs : sol S1.objs S.objs.length solFuel r = some r') : finish false S S1 r = (r'.frz, S) := by
 obtain ⟨o, t, rfl⟩ := h
 unfold finish
 simp only [Bool.false_eq_true, if_false] at hs ⊢
 rw [hs]
 simp only [List.take_left, beqLL_rfl', if_true]
theorem sol_of_free {objs : List (List PV)} {n : Nat} {r : PV} (h : r.free = true) : sol objs n solFuel r = some r := by unfold solFuel; exact sol_id h
theorem fin_free {S S1 : St} {r : PV} (h : Grows S S1) (hf : r.free = true) : finish false S S1 r = (r.frz, S) := fin_grows h (sol_of_free hf)

@[simp] theorem fin_gi {S S1 : St} {k : IntKind} {n : Int} (h : Grows S S1) : finish false S S1 (.int k n) = (.int k n, S) := fin_free h rfl
@[simp] theorem fin_gb {S S1 : St} {n : Bool} (h : Grows S S1) : finish false S S1 (.bool n) = (.bool n, S) := fin_free h rfl
@[simp] theorem fin_gs {S S1 : St} {n : List UInt8} (h : Grows S S1) : finish false S S1 (.str n) = (.str n, S) := fin_free h rfl
@[simp] theorem grows_refl {S : St} : Grows S S := Grows.refl S

theorem pval_st {T : Tbl} {f : Nat} {args : List PV} {r : PV} (h : cval T f args St0 = some (r, St0)) (hf : r.free = true) (hz : r.frz = r) : pval T f args = some r := by
 rw [pval_of h hf, hz]

@[simp] theorem frz_int (k : IntKind) (n : Int) : (PV.int k n).frz = .int k n := rfl

@[simp] theorem newObj_eq (S : St) (cs : List PV) : newObj S cs = (.ptr S.objs.length 0, ⟨S.objs ++ [cs], S.tips⟩) := rfl
@[simp] theorem newArr_eq (S : St) (sz : Nat) (es : List PV) : newArr S sz es = (.sl (some (S.tips.length, es.length)) es [], ⟨S.objs, S.tips ++ [(es.length, sz)]⟩) := rfl
@[simp] theorem loadP_ref {S : St} {ag : Bool} {n : Nat} {cs : List PV} : loadP S ag n (.ref cs) = partOf ag n cs := rfl
theorem loadP_ptr {S : St} {ag : Bool} {n id off : Nat} {cs : List PV} (h : S.objs[id]? = some cs) : loadP S ag n (.ptr id off) = partOf ag n (cs.drop off) := by
 simp only [loadP, h]
@[simp] theorem loadP_last {ag : Bool} {n off : Nat} {o : List (List PV)} {cs : List PV} {t : List (Nat × Nat)} : loadP ⟨o ++ [cs], t⟩ ag n (.ptr o.length off) = partOf ag n (cs.drop off) := loadP_ptr (by simp)

@[simp] theorem loadP_at0 {ag : Bool} {n off : Nat} {o m : List (List PV)} {cs : List PV} {t : List (Nat × Nat)} : loadP ⟨o ++ cs :: m, t⟩ ag n (.ptr o.length off) = partOf ag n (cs.drop off) := loadP_ptr (by simp)
@[simp] theorem loadP_at {ag : Bool} {n off k : Nat} {o m : List (List PV)} {t : List (Nat × Nat)} : loadP ⟨o ++ m, t⟩ ag n (.ptr (o.length + k) off) = match m[k]? with | some cs => partOf ag n (cs.drop off) | none => none := by
 simp only [loadP]
 rw [List.getElem?_append_right (by omega), Nat.add_sub_cancel_left]
 cases m[k]? <;> rfl

theorem bounds_hi {len cap h : Nat} {k : IntKind} (hh : h ≤ cap) : bounds len cap none (some (.int k (h : Int))) = some (0, h) := by
 have h1 : (0 : Int) ≤ h ∧ (h : Int) ≤ cap := by omega
 simp only [bounds, hiOf, loOf, bound, h1]
 simp
theorem bounds_lo {len cap lo : Nat} {k : IntKind} (hh : lo ≤ len) : bounds len cap (some (.int k (lo : Int))) none = some (lo, len) := by
 have h1 : (0 : Int) ≤ lo ∧ (lo : Int) ≤ len := by omega
 simp only [bounds, hiOf, loOf, bound, h1]
 simp [hh]
structure Reads1 (sz : Nat) (v : PV) (es : List PV) : Prop where
 len : lenP false v = some (.int .i64 es.length)
 get : ∀ (i : Nat) (h : i < es.length) (k : IntKind), iaddrP sz v (.int k i) = some (.ref es[i].cells)

theorem reads_nils (sz : Nat) : Reads1 sz .nils [] := ⟨rfl, fun i h => by simp at h⟩
theorem reads_sl {sz : Nat} {tip : Option (Nat × Nat)} {es sp : List PV} (h : ∀ e ∈ es, e.cells.length = sz) : Reads1 sz (.sl tip es sp) es :=
 ⟨rfl, fun i hi k => by
  have := h es[i] (List.getElem_mem hi)
  simp [List.getElem?_eq_getElem hi, this]⟩

structure AccG (S0 : St) (sz : Nat) (S : St) (v : PV) (es : List PV) : Prop where
 grows : Grows S0 S
 acc : (v = .nils ∧ es = []) ∨ ∃ id, S0.tips.length ≤ id ∧ v = .sl (some (id, es.length)) es [] ∧ S.tips[id]? = some (es.length, sz)

theorem accg_nil {S0 S : St} (sz : Nat) (h : Grows S0 S) : AccG S0 sz S .nils [] := ⟨h, .inl ⟨rfl, rfl⟩⟩
theorem accg_new {S0 S : St} (sz : Nat) (es : List PV) (h : Grows S0 S) : AccG S0 sz ⟨S.objs, S.tips ++ [(es.length, sz)]⟩ (.sl (some (S.tips.length, es.length)) es []) es := by
 refine ⟨h.arr _, .inr ⟨S.tips.length, ?_, rfl, by simp⟩⟩
 obtain ⟨o, t, rfl⟩ := h
 simp
theorem AccG.objs {S0 S : St} {sz : Nat} {v : PV} {es : List PV} (h : AccG S0 sz S v es) (x : List (List PV)) : AccG S0 sz ⟨S.objs ++ x, S.tips⟩ v es := ⟨h.grows.objs x, h.acc⟩
theorem AccG.arrs {S0 S : St} {sz : Nat} {v : PV} {es : List PV} (h : AccG S0 sz S v es) (x : List (Nat × Nat)) : AccG S0 sz ⟨S.objs, S.tips ++ x⟩ v es := by
 refine ⟨h.grows.arrs x, ?_⟩
 rcases h.acc with a | ⟨id, a, b, c⟩
 ·exact .inl a
 ·refine .inr ⟨id, a, b, ?_⟩
  have := (List.getElem?_eq_some_iff.1 c).1
  simp only
  rw [List.getElem?_append_left this]; exact c

theorem AccG.app {S0 S : St} {sz bytes : Nat} {v : PV} {es : List PV} (h : AccG S0 sz S v es) (new : List PV) (hb : (es.length + new.length) * bytes ≤ 140737488355328) :
  ∃ v' S', appendTo sz bytes S v new = some (v', S') ∧ AccG S0 sz S' v' (es ++ new) ∧ S'.objs = S.objs := by
 obtain ⟨hg, ha⟩ := h
 cases new with
 | nil =>
  rcases ha with ⟨rfl, rfl⟩ | ⟨id, hid, rfl, h2⟩
  ·exact ⟨.nils, S, by simp [appendTo], ⟨hg, .inl ⟨rfl, rfl⟩⟩, rfl⟩
  ·exact ⟨_, S, by simp only [appendTo, List.isEmpty_nil, if_true]; rfl, ⟨hg, .inr ⟨id, hid, by simp, by simpa using h2⟩⟩, rfl⟩
 | cons n new =>
  rcases ha with ⟨rfl, rfl⟩ | ⟨id, hid, rfl, h2⟩
  ·refine ⟨.sl (some (S.tips.length, (n :: new).length)) (n :: new) [], ⟨S.objs, S.tips ++ [((n :: new).length, sz)]⟩, ?_, ?_, rfl⟩
   ·simp only [appendTo, List.isEmpty_cons, Bool.false_eq_true, if_false]
    rw [if_pos (by simpa using hb)]; rfl
   ·have := accg_new sz (n :: new) hg
    simpa using this
  ·refine ⟨.sl (some (id, es.length + (n :: new).length)) (es ++ n :: new) [], { S with tips := S.tips.set id (es.length + (n :: new).length, sz) }, ?_, ?_, rfl⟩
   ·simp only [appendTo, List.isEmpty_cons, Bool.false_eq_true, if_false]
    rw [if_pos ⟨h2, hb⟩]
   ·have hlt := (List.getElem?_eq_some_iff.1 h2).1
    refine ⟨?_, .inr ⟨id, hid, by simp, ?_⟩⟩
    ·obtain ⟨o, t, rfl⟩ := hg
     refine ⟨o, t.set (id - S0.tips.length) (es.length + (n :: new).length, sz), ?_⟩
     simp only [St.mk.injEq, true_and]
     rw [List.set_append_right _ _ hid]
    ·simp [hlt]

def slF (v : PV) (es : List PV) : PV := match v with | .nils => .nils | _ => .sl none es []

theorem AccG.fin {S0 S : St} {sz : Nat} {v : PV} {es : List PV} (h : AccG S0 sz S v es) (hf : PV.freeL es = true) (hz : PV.frzL es = es) : finish false S0 S v = (slF v es, S0) := by
 obtain ⟨hg, ha⟩ := h
 rcases ha with ⟨rfl, rfl⟩ | ⟨id, _, rfl, _⟩
 ·exact fin_free hg rfl
 ·rw [fin_free hg (by simp [PV.free, hf, PV.freeL])]
  simp [PV.frz, hz, slF, PV.frzL]

theorem AccG.len {S0 S : St} {sz : Nat} {v : PV} {es : List PV} (h : AccG S0 sz S v es) : lenP false v = some (.int .i64 es.length) := by
 rcases h.acc with ⟨rfl, rfl⟩ | ⟨id, _, rfl, _⟩ <;> rfl

theorem freeL_map {α : Type} (f : α → PV) (h : ∀ x, (f x).free = true) : ∀ l : List α, PV.freeL (l.map f) = true
 | [] => rfl
 | a :: l => by simp [PV.freeL, h a, freeL_map f h l]
theorem frzL_map' {α : Type} (f : α → PV) (h : ∀ x, (f x).frz = f x) : ∀ l : List α, PV.frzL (l.map f) = l.map f
 | [] => rfl
 | a :: l => by simp [PV.frzL, h a, frzL_map' f h l]

def IsSl (sz : Nat) (v : PV) (es : List PV) : Prop := (v = .nils ∧ es = []) ∨ ∃ tip sp, v = .sl tip es sp ∧ ∀ e ∈ es ++ sp, e.cells.length = sz

theorem IsSl.reads {sz : Nat} {v : PV} {es : List PV} (h : IsSl sz v es) : Reads1 sz v es := by
 rcases h with ⟨rfl, rfl⟩ | ⟨tip, sp, rfl, h⟩
 ·exact reads_nils sz
 ·exact reads_sl (fun e he => h e (by simp [he]))
theorem IsSl.len {sz : Nat} {v : PV} {es : List PV} (h : IsSl sz v es) : lenP false v = some (.int .i64 es.length) := h.reads.len
theorem szOk_of {sz : Nat} {es : List PV} (h : ∀ e ∈ es, e.cells.length = sz) : szOk sz es = true := by
 cases es with
 | nil => rfl
 | cons e es => simp [h e (by simp)]
theorem IsSl.appd {sz : Nat} {v : PV} {es : List PV} (h : IsSl sz v es) : appended sz v = some es := by
 rcases h with ⟨rfl, rfl⟩ | ⟨tip, sp, rfl, h⟩
 ·rfl
 ·rw [appended_sl, if_pos (szOk_of (fun e he => h e (by simp [he])))]
theorem IsSl.lo {sz : Nat} {v : PV} {es : List PV} (h : IsSl sz v es) {lo : Nat} {k : IntKind} (hl : lo ≤ es.length) : ∃ v', slcP sz (some (.int k (lo : Int))) none v = some v' ∧ IsSl sz v' (es.drop lo) := by
 rcases h with ⟨rfl, rfl⟩ | ⟨tip, sp, rfl, h⟩
 ·refine ⟨.nils, ?_, .inl ⟨rfl, by simp⟩⟩
  have : lo = 0 := by simpa using hl
  subst this
  rw [slcP_nils, bounds_lo (by omega)]
 ·refine ⟨.sl (if es.length = es.length then tip else none) (((es ++ sp).take es.length).drop lo) ((es ++ sp).drop es.length), ?_, .inr ⟨if es.length = es.length then tip else none, sp, ?_, ?_⟩⟩
  ·rw [slcP_sl, szOk_of h, bounds_lo hl]; rfl
  ·simp
  ·intro e he
   refine h e ?_
   rcases List.mem_append.1 he with he | he
   ·exact List.mem_append_left _ (List.mem_of_mem_drop he)
   ·exact List.mem_append_right _ he
theorem appdS {S : St} {sz : Nat} {v : PV} {es : List PV} (h : appended sz v = some es) : appendedS S sz v = some es := by
 cases v <;> first | exact h | (simp [appended] at h)
theorem IsSl.appdS {S : St} {sz : Nat} {v : PV} {es : List PV} (h : IsSl sz v es) : appendedS S sz v = some es := Ps.appdS h.appd
end Ps
