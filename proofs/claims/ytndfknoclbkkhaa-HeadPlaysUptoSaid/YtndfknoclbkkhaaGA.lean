/- Loops that go up; slices as they are handed back; what is gathered in arrays that are objects. -/
import Derived.Test.YtndfknoclbkkhaaTie
import Derived.Test.YtndfknoclbkkhaaOkD
import Derived.Test.YtndfknoclbkkhaaRow
import Derived.Test.YtndfknoclbkkhaaLB
namespace Ps
set_option linter.unusedSimpArgs false
set_option linter.unusedVariables false
open Go
theorem fn_68 : T.fn 68 = some (.code z89) := rfl
theorem fn_188 : T.fn 188 = some (.code z50) := rfl
theorem fn_189 : T.fn 189 = some (.code z40) := rfl
theorem fn_278 : T.fn 278 = some (.code z84) := rfl
theorem fn_181 : T.fn 181 = some (.codeD head_Head_rows) := rfl

@[simp] theorem eqn_ptr {i o : Nat} {b : Bool} : eqnP b .p (.ptr i o) = some (.bool b) := by cases b <;> rfl
@[simp] theorem eqn_nilp {b : Bool} : eqnP b .p .nilp = some (.bool !b) := by cases b <;> rfl

structure Sr where
 lv : PV
 sv : PV
 sm : List (Int × Int)
 lb : List Lab
structure Hd where
 hv : PV
 mi : Nat
 ser : List Sr
 ids : List PV
 count : Int

def smE (p : Int × Int) : PV := .agg [.int .i64 p.1, .int .i64 p.2]
def smC (l : List (Int × Int)) : List PV := l.flatMap fun p => [.int .i64 p.1, .int .i64 p.2]
theorem smC_len (l : List (Int × Int)) : (smC l).length = 2 * l.length := by
 induction l with
 | nil => rfl
 | cons p l ih => simp only [smC, List.flatMap_cons, List.length_append, List.length_cons, List.length_nil] at ih ⊢; omega
theorem smC_drop : ∀ (l : List (Int × Int)) (i : Nat), (smC l).drop (i * 2) = smC (l.drop i)
 | l, 0 => by simp
 | [], i + 1 => by simp [smC]
 | p :: l, i + 1 => by
  rw [show (i + 1) * 2 = 2 + i * 2 by omega, ← List.drop_drop]
  show ((smC (p :: l)).drop 2).drop (i * 2) = _
  have : (smC (p :: l)).drop 2 = smC l := by simp [smC]
  rw [this, smC_drop l i]; rfl

def SmAt (S : St) (sv : PV) (l : List (Int × Int)) : Prop := ((sv = .nils ∨ sv = .emp) ∧ l = []) ∨ ∃ id t, sv = .osl id 0 l.length 2 ∧ S.objs[id]? = some (smC l ++ t)

structure HAt (S : St) (o : Nat) (H : Hd) : Prop where
 obj : S.objs[o]? = some [H.hv, .map H.mi, .int .i64 H.count]
 ids : S.objs[H.mi]? = some H.ids
 ser : (H.hv = .nils ∧ H.ser = []) ∨ ∃ si, H.hv = .osl si 0 H.ser.length 2 ∧ S.objs[si]? = some (H.ser.flatMap fun r => [r.lv, r.sv])
 sam : ∀ r ∈ H.ser, SmAt S r.sv r.sm
 lab : ∀ r ∈ H.ser, r.lv.free = true ∧ r.lv.frz = r.lv ∧ r.lv.one = true

def lastT (l : List (Int × Int)) : Int := match l.getLast? with | some p => p.1 | none => -1

theorem last_val {S : St} {sv : PV} {l : List (Int × Int)} (h : SmAt S sv l) (hl : l.length ≤ 1048576) : cval T 278 [sv] S = some (.int .i64 (lastT l), S) := by
 refine cval_ok' fn_278 rfl ?_
 rcases h with ⟨rfl | rfl, rfl⟩ | ⟨id, t, rfl, ho⟩
 ·simp -implicitDefEqProofs [z84, lastT]
 ·simp -implicitDefEqProofs [z84, lastT]
 ·cases l with
  | nil => simp -implicitDefEqProofs [z84, lastT]
  | cons p l =>
   have hw : IntKind.i64.wrap (l.length : Int) = (l.length : Int) := wrap_i64 (by omega) (by simp only [List.length_cons] at hl; omega)
   have hg : (p :: l)[l.length]? = some ((p :: l).getLast (by simp)) := by
    rw [List.getLast_eq_getElem]; simp
   have hd : (smC (p :: l) ++ t).drop (l.length * 2) = .int .i64 ((p :: l).getLast (by simp)).1 :: (.int .i64 ((p :: l).getLast (by simp)).2 :: t) := by
    rw [List.drop_append_of_le_length (by rw [smC_len]; simp only [List.length_cons]; omega), smC_drop]
    have : (p :: l).drop l.length = [(p :: l).getLast (by simp)] := by
     rw [List.drop_eq_getElem_cons (by simp), List.getLast_eq_getElem]; simp
    rw [this]; simp [smC]
   have hload : loadP S false 1 (.ptr id (l.length * 2)) = some (.int .i64 ((p :: l).getLast (by simp)).1) := by
    rw [loadP_ptr ho, hd]; simp [partOf]
   have e : lastT (p :: l) = ((p :: l).getLast (by simp)).1 := by simp [lastT, List.getLast?_eq_some_getLast]
   rw [e]
   generalize ((p :: l).getLast (by simp)).1 = x at hload ⊢
   have hlt : ((l.length : Int) < (l.length : Int) + 1) := by omega
   have hne : ((l.length : Int) + 1 == 0) = false := by rw [beq_eq_false_iff_ne]; omega
   simp -implicitDefEqProofs [z84, hw, hload, hne, hlt]

theorem len_val {S : St} {o : Nat} {H : Hd} (h : HAt S o H) : cval T 188 [.ptr o 0] S = some (.int .i64 H.ser.length, S) := by
 have hob := h.obj
 have hlen : lenP false H.hv = some (.int .i64 H.ser.length) := by
  rcases h.ser with ⟨e, e2⟩ | ⟨si, e, _⟩
  ·rw [e, e2]; rfl
  ·rw [e]; rfl
 refine cval_ok' fn_188 rfl ?_
 simp -implicitDefEqProofs [z50, loadP_ptr hob, partOf, hlen]
theorem count_val {S : St} {o : Nat} {H : Hd} (h : HAt S o H) : cval T 189 [.ptr o 0] S = some (.int .i64 H.count, S) := by
 have hob := h.obj
 refine cval_ok' fn_189 rfl ?_
 simp -implicitDefEqProofs [z40, loadP_ptr hob, partOf]
end Ps
namespace Ps
set_option linter.unusedSimpArgs false
set_option linter.unusedVariables false
open Go
theorem lp_up {T : Tbl} {body : PCode} {K : List Kt} {Q : Fr → St → Prop} (n : Nat) (P : Nat → Fr → St → Prop)
  (round : ∀ i fr S, i < n → P i fr S → (∀ fr' S', P (i + 1) fr' S' → Ok (gval T (.lp body :: K) fr' S') Q) → Ok (gval T (.lp body :: K) fr S) Q)
  (done : ∀ fr S, P n fr S → Ok (gval T (.lp body :: K) fr S) Q) (i : Nat) (hi : i ≤ n) (fr : Fr) (S : St) (h : P i fr S) : Ok (gval T (.lp body :: K) fr S) Q := by
 obtain ⟨k, hk⟩ : ∃ k, n - i = k := ⟨_, rfl⟩
 induction k generalizing i fr S with
 | zero =>
  have : i = n := by omega
  subst this
  exact done fr S h
 | succ k ih => exact round i fr S (by omega) h (fun fr' S' h' => ih (i + 1) (by omega) fr' S' h' (by omega))

theorem wrap_up {i n : Nat} (h : i < n) (hn : n ≤ maxLen) : IntKind.i64.wrap ((i : Int) + 1) = (i : Int) + 1 := by
 unfold maxLen at hn
 exact wrap_i64 (by omega) (by omega)

theorem resOf_cell {fr : Fr} {S : St} {t n : Nat} {ag : Bool} : resOf fr S (.cell t ag n) = loadP S ag n (fr t) := by
 simp only [resOf, loadP]
 cases fr t <;> rfl
theorem ends_c {S S1 S2 : St} {r v : PV} {fr : Fr} {raw ag : Bool} {t n : Nat} (h : loadP S1 ag n (fr t) = some v) (k : finish raw S S1 v = (r, S2)) : Ends [.cell t ag n] raw S r S2 fr S1 :=
 ⟨[v], by simp only [resAll, resOf_cell, h], k⟩
theorem ends_ct {S S1 S2 : St} {r v w : PV} {fr : Fr} {raw ag : Bool} {t n u : Nat} (h : loadP S1 ag n (fr t) = some v) (hu : fr u = w) (k : finish raw S S1 (.tup [v, w]) = (r, S2)) : Ends [.cell t ag n, .tmp u] raw S r S2 fr S1 :=
 ⟨[v, w], by subst hu; rw [← resOf_cell] at h; simp only [resAll, h]; rfl, k⟩
structure Sl0 (sz : Nat) (v : PV) (es : List PV) : Prop where
 val : (v = .nils ∧ es = []) ∨ ∃ sp, v = .sl none es sp ∧ (∀ e ∈ sp, e.cells.length = sz) ∧ PV.freeL sp = true ∧ PV.frzL sp = sp
 sz : ∀ e ∈ es, e.cells.length = sz
 fr : PV.freeL es = true
 fz : PV.frzL es = es

theorem Sl0.reads {sz : Nat} {v : PV} {es : List PV} (h : Sl0 sz v es) : Reads1 sz v es := by
 rcases h.val with ⟨rfl, rfl⟩ | ⟨sp, rfl, _⟩
 ·exact reads_nils sz
 ·exact reads_sl h.sz
theorem Sl0.isl {sz : Nat} {v : PV} {es : List PV} (h : Sl0 sz v es) : IsSl sz v es := by
 rcases h.val with ⟨rfl, rfl⟩ | ⟨sp, rfl, hs, _⟩
 ·exact .inl ⟨rfl, rfl⟩
 ·exact .inr ⟨none, sp, rfl, fun e he => (List.mem_append.1 he).elim (h.sz e) (hs e)⟩
theorem Sl0.len {sz : Nat} {v : PV} {es : List PV} (h : Sl0 sz v es) : lenP false v = some (.int .i64 es.length) := h.reads.len
theorem Sl0.free {sz : Nat} {v : PV} {es : List PV} (h : Sl0 sz v es) : v.free = true := by
 rcases h.val with ⟨rfl, rfl⟩ | ⟨sp, rfl, _, hf, _⟩
 ·rfl
 ·simp [PV.free, h.fr, hf]
theorem Sl0.frz {sz : Nat} {v : PV} {es : List PV} (h : Sl0 sz v es) : v.frz = v := by
 rcases h.val with ⟨rfl, rfl⟩ | ⟨sp, rfl, _, _, hz⟩
 ·rfl
 ·simp [PV.frz, h.fz, hz]
theorem Sl0.one {sz : Nat} {v : PV} {es : List PV} (h : Sl0 sz v es) : v.one = true ∧ v.cells = [v] := by
 rcases h.val with ⟨rfl, rfl⟩ | ⟨sp, rfl, _⟩ <;> exact ⟨rfl, rfl⟩
theorem Sl0.appd {sz : Nat} {v : PV} {es : List PV} (h : Sl0 sz v es) (S : St) : appendedS S sz v = some es := by
 rcases h.val with ⟨rfl, rfl⟩ | ⟨sp, rfl, _⟩
 ·rfl
 ·rw [appendedS_sl, if_pos (szOk_of h.sz)]
theorem sl0_nils (sz : Nat) : Sl0 sz .nils [] := ⟨.inl ⟨rfl, rfl⟩, by simp, rfl, rfl⟩
theorem sl0_sl {sz : Nat} {es : List PV} (h : ∀ e ∈ es, e.cells.length = sz) (hf : PV.freeL es = true) (hz : PV.frzL es = es) : Sl0 sz (.sl none es []) es := ⟨.inr ⟨[], rfl, by simp, rfl, rfl⟩, h, hf, hz⟩
theorem AccG.sl0 {S0 S : St} {sz : Nat} {v : PV} {es : List PV} (h : AccG S0 sz S v es) (hs : ∀ e ∈ es, e.cells.length = sz) (hf : PV.freeL es = true) (hz : PV.frzL es = es) :
  finish false S0 S v = (slF v es, S0) ∧ Sl0 sz (slF v es) es := by
 refine ⟨h.fin hf hz, ?_, hs, hf, hz⟩
 rcases h.acc with ⟨rfl, rfl⟩ | ⟨id, _, rfl, _⟩
 ·exact .inl ⟨rfl, rfl⟩
 ·exact .inr ⟨[], rfl, by simp, rfl, rfl⟩
theorem AccG.push {S0 S : St} {sz bytes : Nat} {v : PV} {es : List PV} (h : AccG S0 sz S v es) (e : PV) (hb : (es.length + 1) * bytes ≤ 140737488355328) :
  ∃ v' S', appendTo sz bytes ⟨S.objs, S.tips ++ [(1, sz)]⟩ v [e] = some (v', S') ∧ AccG S0 sz S' v' (es ++ [e]) ∧ S'.objs = S.objs := by
 obtain ⟨v', S', h1, h2, h3⟩ := (h.arrs [(1, sz)]).app (bytes := bytes) [e] (by simpa using hb)
 exact ⟨v', S', h1, h2, h3⟩

def slcV (v : PV) (k : Nat) : PV := match v with | .sl _ es sp => .sl none (es.take k) (es.drop k ++ sp) | _ => .nils
theorem Sl0.slc {v : PV} {es : List PV} (h : Sl0 1 v es) {k : Nat} (hk : k ≤ es.length) {j : IntKind} : slcP 1 none (some (.int j (k : Int))) v = some (slcV v k) ∧ Sl0 1 (slcV v k) (es.take k) := by
 have fzd : ∀ {l m : List PV}, PV.frzL l = l → (∀ (i : Nat) (x : PV), m[i]? = some x → ∃ j : Nat, l[j]? = some x) → PV.frzL m = m := by
  intro l m hl hm
  rw [frzL_map] at hl ⊢
  have key : ∀ x ∈ l, x.frz = x := by
   intro x hx
   obtain ⟨i, hi⟩ := List.getElem?_of_mem hx
   have e := congrArg (fun l => l[i]?) hl
   simp only [List.getElem?_map, hi, Option.map_some, Option.some.injEq] at e
   exact e
  have : m.map PV.frz = m.map id := List.map_congr_left fun x hx => by
   obtain ⟨i, hi⟩ := List.getElem?_of_mem hx
   obtain ⟨q, hq⟩ := hm i x hi
   exact key x (List.mem_of_getElem? hq)
  rw [this, List.map_id]
 rcases h.val with ⟨rfl, rfl⟩ | ⟨sp, rfl, hs, hf, hz⟩
 ·have : k = 0 := by simpa using hk
  subst this
  exact ⟨by rw [slcP_nils, bounds_hi (by omega)]; rfl, sl0_nils 1⟩
 ·have hsz : ∀ e ∈ es ++ sp, e.cells.length = 1 := fun e he => (List.mem_append.1 he).elim (h.sz e) (hs e)
  refine ⟨?_, .inr ⟨es.drop k ++ sp, rfl, ?_, ?_, ?_⟩, fun e he => h.sz e (List.mem_of_mem_take he), freeL_of_mem fun v hv => freeL_mem h.fr v (List.mem_of_mem_take hv), fzd h.fz fun i x hx => ?_⟩
  ·rw [slcP_sl, szOk_of hsz, bounds_hi (by omega)]
   simp only [Bool.not_true, Bool.false_eq_true, if_false, slcV, List.drop_zero, Option.some.injEq]
   rw [List.take_append_of_le_length hk, List.drop_append_of_le_length hk]
   split <;> rfl
  ·intro e he
   rcases List.mem_append.1 he with he | he
   ·exact h.sz e (List.mem_of_mem_drop he)
   ·exact hs e he
  ·refine freeL_of_mem fun v hv => ?_
   rcases List.mem_append.1 hv with hv | hv
   ·exact freeL_mem h.fr v (List.mem_of_mem_drop hv)
   ·exact freeL_mem hf v hv
  ·have e1 : PV.frzL (es.drop k) = es.drop k := fzd h.fz fun i x hx => ⟨k + i, by rw [List.getElem?_drop] at hx; exact hx⟩
   rw [frzL_map] at e1 hz ⊢
   rw [List.map_append, e1, hz]
  ·obtain ⟨q, hq⟩ := List.getElem?_of_mem (List.mem_of_mem_take (List.mem_of_getElem? hx))
   exact ⟨q, hq⟩

def gidV : PV → Option Nat
 | .osl id _ _ _ => some id
 | _ => none

structure GAcc (S0 : St) (sz : Nat) (S : St) (v : PV) (es : List PV) : Prop where
 acc : ((v = .emp ∨ v = .nils) ∧ es = []) ∨ ∃ id, S0.objs.length ≤ id ∧ v = .osl id 0 es.length sz ∧ S.objs[id]? = some (es.flatMap PV.cells) ∧ es ≠ []
 ok : ∀ e ∈ es, e.cells.length = sz ∧ e.cells.all PV.one = true

theorem flatl {sz : Nat} : ∀ {es : List PV}, (∀ e ∈ es, e.cells.length = sz) → (es.flatMap PV.cells).length = es.length * sz
 | [], _ => by simp
 | e :: es, h => by
  rw [List.flatMap_cons, List.length_append, h e (by simp), flatl (fun x hx => h x (by simp [hx])), List.length_cons, Nat.add_mul]; omega
theorem flat_all {es : List PV} (h : ∀ e ∈ es, e.cells.all PV.one = true) : (es.flatMap PV.cells).all PV.one = true := by
 rw [List.all_eq_true]
 intro x hx
 obtain ⟨e, he, hxe⟩ := List.mem_flatMap.1 hx
 exact (List.all_eq_true.1 (h e he)) x hxe

theorem GAcc.app {S0 S : St} {sz bytes : Nat} {v : PV} {es new : List PV} (h : GAcc S0 sz S v es) (hg : Grows S0 S) (hsz : 0 < sz) (hn : ∀ e ∈ new, e.cells.length = sz ∧ e.cells.all PV.one = true) (hb : (es.length + new.length) * bytes ≤ 140737488355328) :
  ∃ v' S', gappTo sz bytes S v new = some (v', S') ∧ GAcc S0 sz S' v' (es ++ new) ∧ Grows S0 S' ∧ S'.tips = S.tips ∧ S.objs.length ≤ S'.objs.length ∧
   (∀ i x, S.objs[i]? = some x → gidV v ≠ some i → S'.objs[i]? = some x) ∧ (∀ i, gidV v' = some i → i < S.objs.length → gidV v = some i) ∧ (v ≠ .nils → v' ≠ .nils) := by
 have hok : ∀ e ∈ es ++ new, e.cells.length = sz ∧ e.cells.all PV.one = true := fun e he => by
  rcases List.mem_append.1 he with he | he
  ·exact h.ok e he
  ·exact hn e he
 obtain ⟨o0, t0, rfl⟩ := hg
 unfold gappTo
 cases new with
 | nil =>
  rcases h.acc with ⟨hv | hv, rfl⟩ | ⟨id, h1, rfl, h2, h3⟩
  ·subst hv
   exact ⟨.emp, _, rfl, ⟨.inl ⟨.inl rfl, rfl⟩, by simp⟩, ⟨o0, t0, rfl⟩, rfl, Nat.le_refl _, fun _ _ h _ => h, fun i h => (by cases h), fun h => h⟩
  ·subst hv
   exact ⟨.nils, _, rfl, ⟨.inl ⟨.inr rfl, rfl⟩, by simp⟩, ⟨o0, t0, rfl⟩, rfl, Nat.le_refl _, fun _ _ h _ => h, fun i h => (by cases h), fun h => h⟩
  ·exact ⟨_, _, by simp, ⟨.inr ⟨id, h1, by simp, by simpa using h2, by simpa using h3⟩, hok⟩, ⟨o0, t0, rfl⟩, rfl, Nat.le_refl _, fun _ _ h _ => h, fun i h _ => h, fun h => h⟩
 | cons a new =>
  have hS : ∀ (x : List PV) (i : Nat) (y : List PV), (S0.objs ++ o0)[i]? = some y → ((S0.objs ++ o0) ++ [x])[i]? = some y := fun x i y h => by
   rw [List.getElem?_append_left (List.getElem?_eq_some_iff.1 h).1]; exact h
  simp only [List.isEmpty_cons, Bool.false_eq_true, if_false]
  have fresh : es = [] → ∃ v' S', (if (a :: new).length * bytes ≤ 140737488355328 then some (newG ⟨S0.objs ++ o0, S0.tips ++ t0⟩ sz (a :: new)) else none) = some (v', S') ∧ GAcc S0 sz S' v' (es ++ a :: new) ∧ Grows S0 S' ∧ S'.tips = S0.tips ++ t0 ∧ (S0.objs ++ o0).length ≤ S'.objs.length ∧
   (∀ i x, (S0.objs ++ o0)[i]? = some x → gidV v ≠ some i → S'.objs[i]? = some x) ∧ (∀ i, gidV v' = some i → i < (S0.objs ++ o0).length → gidV v = some i) ∧ (v ≠ .nils → v' ≠ .nils) := by
   intro he
   subst he
   rw [if_pos (by simpa using hb)]
   refine ⟨_, _, rfl, ⟨.inr ⟨(S0.objs ++ o0).length, by simp, by simp, by simp, by simp⟩, hok⟩, ⟨o0 ++ [(a :: new).flatMap PV.cells], t0, by simp [newG]⟩, rfl, by simp [newG], fun i x h _ => hS _ i x h, fun i h hlt => ?_, fun _ e => by cases e⟩
   simp only [newG, gidV, Option.some.injEq] at h
   omega
  rcases h.acc with ⟨hv | hv, he⟩ | ⟨id, h1, rfl, h2, h3⟩
  ·subst hv; exact fresh he
  ·subst hv; exact fresh he
  ·have hlt := (List.getElem?_eq_some_iff.1 h2).1
   have hfl := flatl (fun e he => (h.ok e he).1)
   have hpos : 0 < (es.flatMap PV.cells).length := by
    rw [hfl]
    have : 0 < es.length := by cases es <;> simp at h3 ⊢
    exact Nat.mul_pos this hsz
   have htk : (es.flatMap PV.cells).take (es.length * sz) = es.flatMap PV.cells := List.take_of_length_le (by rw [hfl]; exact Nat.le_refl _)
   simp only at h2
   simp only [h2]
   rw [if_pos ⟨trivial, trivial, hpos, by rw [hfl]; exact Nat.le_refl _, by rw [htk]; exact flat_all (fun e he => (h.ok e he).2), hb⟩, htk]
   refine ⟨_, _, rfl, ⟨.inr ⟨(S0.objs ++ o0).length, by simp, by simp, by simp, by simp⟩, hok⟩, ⟨o0.set (id - S0.objs.length) [] ++ [es.flatMap PV.cells ++ (a :: new).flatMap PV.cells], t0, ?_⟩, rfl, by simp, fun i x hx hne => ?_, fun i hi hlt2 => ?_, fun _ e => by cases e⟩
   ·simp only [St.mk.injEq, and_true]
    rw [List.set_append_right _ _ h1, List.append_assoc]
   ·have hne' : i ≠ id := fun e => hne (by rw [e]; rfl)
    rw [List.getElem?_append_left (by simp; have := (List.getElem?_eq_some_iff.1 hx).1; simpa using this), List.getElem?_set_ne (Ne.symm hne')]
    exact hx
   ·simp only [gidV, Option.some.injEq] at hi
    omega

theorem mapO_append {f : PV → Option PV} {a b c d : List PV} (h1 : mapO f a = some c) (h2 : mapO f b = some d) : mapO f (a ++ b) = some (c ++ d) := by
 induction a generalizing c with
 | nil => cases h1; exact h2
 | cons x a ih =>
  simp only [mapO] at h1
  split at h1
  ·rename_i y hy
   split at h1
   ·rename_i m hm
    cases h1
    simp only [List.cons_append, mapO, hy, ih hm]
   ·cases h1
  ·cases h1
theorem mapO_free' {objs : List (List PV)} {n0 k : Nat} : ∀ {l : List PV}, PV.freeL l = true → mapO (sol objs n0 (k + 1)) l = some l
 | [], _ => rfl
 | a :: l, h => by
  simp only [PV.freeL, Bool.and_eq_true] at h
  simp only [mapO, sol_id h.1, mapO_free' h.2]

theorem sol_emp {objs : List (List PV)} {n0 k : Nat} : sol objs n0 (k + 1) .emp = some (.sl none [] []) := by
 unfold sol; simp [PV.free]
end Ps
