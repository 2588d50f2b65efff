/- The document's disk: its state in plain words; directories. -/
import Derived.Test.YtidloidlffjimaaOk
import Derived.Test.YtidloidlffjimaaDC
namespace Ps
set_option linter.unusedSimpArgs false
set_option linter.unusedVariables false
open Go
theorem lp_up {T : Tbl} {body : PCode} {K : List Kt} {Q : Fr → St → Prop} (n : Nat) (P : Nat → Fr → St → Prop)
  (round : ∀ i fr S, i < n → P i fr S → (∀ fr' S', P (i + 1) fr' S' → Ok (gval T (.lp body :: K) fr' S') Q) → Ok (gval T (.lp body :: K) fr S) Q)
  (done : ∀ fr S, P n fr S → Ok (gval T (.lp body :: K) fr S) Q) (i : Nat) (hi : i ≤ n) (fr : Fr) (S : St) (h : P i fr S) : Ok (gval T (.lp body :: K) fr S) Q := by
 obtain ⟨k, hk⟩ : ∃ k, n - i = k := ⟨_, rfl⟩
 induction k generalizing i fr S with
 | zero =>
  have : i = n := by omega
  subst this
  exact done fr S h
 | succ k ih => exact round i fr S (by omega) h (fun fr' S' h' => ih (i + 1) (by omega) fr' S' h' (by omega))

theorem wrap_up {i n : Nat} (h : i < n) (hn : n ≤ maxLen) : IntKind.i64.wrap ((i : Int) + 1) = (i : Int) + 1 := by
 unfold maxLen at hn
 exact wrap_i64 (by omega) (by omega)

theorem resOf_cell {fr : Fr} {S : St} {t n : Nat} {ag : Bool} : resOf fr S (.cell t ag n) = loadP S ag n (fr t) := by
 simp only [resOf, loadP]
 cases fr t <;> rfl
theorem ends_c {S S1 S2 : St} {r v : PV} {fr : Fr} {raw ag : Bool} {t n : Nat} (h : loadP S1 ag n (fr t) = some v) (k : finish raw S S1 v = (r, S2)) : Ends [.cell t ag n] raw S r S2 fr S1 :=
 ⟨[v], by simp only [resAll, resOf_cell, h], k⟩
theorem ends_ct {S S1 S2 : St} {r v w : PV} {fr : Fr} {raw ag : Bool} {t n u : Nat} (h : loadP S1 ag n (fr t) = some v) (hu : fr u = w) (k : finish raw S S1 (.tup [v, w]) = (r, S2)) : Ends [.cell t ag n, .tmp u] raw S r S2 fr S1 :=
 ⟨[v, w], by subst hu; rw [← resOf_cell] at h; simp only [resAll, h]; rfl, k⟩
theorem ends_ctt {S S1 S2 : St} {r v w x : PV} {fr : Fr} {raw ag : Bool} {t n u y : Nat} (h : loadP S1 ag n (fr t) = some v) (hu : fr u = w) (hy : fr y = x) (k : finish raw S S1 (.tup [v, w, x]) = (r, S2)) : Ends [.cell t ag n, .tmp u, .tmp y] raw S r S2 fr S1 :=
 ⟨[v, w, x], by subst hu; subst hy; rw [← resOf_cell] at h; simp only [resAll, h]; rfl, k⟩

structure Sl0 (sz : Nat) (v : PV) (es : List PV) : Prop where
 val : (v = .nils ∧ es = []) ∨ ∃ sp, v = .sl none es sp ∧ (∀ e ∈ sp, e.cells.length = sz) ∧ PV.freeL sp = true ∧ PV.frzL sp = sp
 sz : ∀ e ∈ es, e.cells.length = sz
 fr : PV.freeL es = true
 fz : PV.frzL es = es

theorem Sl0.reads {sz : Nat} {v : PV} {es : List PV} (h : Sl0 sz v es) : Reads1 sz v es := by
 rcases h.val with ⟨rfl, rfl⟩ | ⟨sp, rfl, _⟩
 ·exact reads_nils sz
 ·exact reads_sl h.sz
theorem Sl0.len {sz : Nat} {v : PV} {es : List PV} (h : Sl0 sz v es) : lenP false v = some (.int .i64 es.length) := h.reads.len
theorem Sl0.free {sz : Nat} {v : PV} {es : List PV} (h : Sl0 sz v es) : v.free = true := by
 rcases h.val with ⟨rfl, rfl⟩ | ⟨sp, rfl, _, hf, _⟩
 ·rfl
 ·simp [PV.free, h.fr, hf]
theorem Sl0.frz {sz : Nat} {v : PV} {es : List PV} (h : Sl0 sz v es) : v.frz = v := by
 rcases h.val with ⟨rfl, rfl⟩ | ⟨sp, rfl, _, _, hz⟩
 ·rfl
 ·simp [PV.frz, h.fz, hz]
theorem Sl0.one {sz : Nat} {v : PV} {es : List PV} (h : Sl0 sz v es) : v.one = true ∧ v.cells = [v] := by
 rcases h.val with ⟨rfl, rfl⟩ | ⟨sp, rfl, _⟩ <;> exact ⟨rfl, rfl⟩
theorem Sl0.appd {sz : Nat} {v : PV} {es : List PV} (h : Sl0 sz v es) (S : St) : appendedS S sz v = some es := by
 rcases h.val with ⟨rfl, rfl⟩ | ⟨sp, rfl, _⟩
 ·rfl
 ·rw [appendedS_sl, if_pos (szOk_of h.sz)]
theorem sl0_nils (sz : Nat) : Sl0 sz .nils [] := ⟨.inl ⟨rfl, rfl⟩, by simp, rfl, rfl⟩
theorem sl0_sl {sz : Nat} {es : List PV} (h : ∀ e ∈ es, e.cells.length = sz) (hf : PV.freeL es = true) (hz : PV.frzL es = es) : Sl0 sz (.sl none es []) es := ⟨.inr ⟨[], rfl, by simp, rfl, rfl⟩, h, hf, hz⟩
theorem AccG.sl0 {S0 S : St} {sz : Nat} {v : PV} {es : List PV} (h : AccG S0 sz S v es) (hs : ∀ e ∈ es, e.cells.length = sz) (hf : PV.freeL es = true) (hz : PV.frzL es = es) :
  finish false S0 S v = (slF v es, S0) ∧ Sl0 sz (slF v es) es := by
 refine ⟨h.fin hf hz, ?_, hs, hf, hz⟩
 rcases h.acc with ⟨rfl, rfl⟩ | ⟨id, _, rfl, _⟩
 ·exact .inl ⟨rfl, rfl⟩
 ·exact .inr ⟨[], rfl, by simp, rfl, rfl⟩
theorem AccG.push {S0 S : St} {sz bytes : Nat} {v : PV} {es : List PV} (h : AccG S0 sz S v es) (e : PV) (hb : (es.length + 1) * bytes ≤ 140737488355328) :
  ∃ v' S', appendTo sz bytes ⟨S.objs, S.tips ++ [(1, sz)]⟩ v [e] = some (v', S') ∧ AccG S0 sz S' v' (es ++ [e]) ∧ S'.objs = S.objs := by
 obtain ⟨v', S', h1, h2, h3⟩ := (h.arrs [(1, sz)]).app (bytes := bytes) [e] (by simpa using hb)
 exact ⟨v', S', h1, h2, h3⟩

def slcV (v : PV) (k : Nat) : PV := match v with | .sl _ es sp => .sl none (es.take k) (es.drop k ++ sp) | _ => .nils
theorem Sl0.slc {v : PV} {es : List PV} (h : Sl0 1 v es) {k : Nat} (hk : k ≤ es.length) {j : IntKind} : slcP 1 none (some (.int j (k : Int))) v = some (slcV v k) ∧ Sl0 1 (slcV v k) (es.take k) := by
 have fzd : ∀ {l m : List PV}, PV.frzL l = l → (∀ (i : Nat) (x : PV), m[i]? = some x → ∃ j : Nat, l[j]? = some x) → PV.frzL m = m := by
  intro l m hl hm
  rw [frzL_map] at hl ⊢
  have key : ∀ x ∈ l, x.frz = x := by
   intro x hx
   obtain ⟨i, hi⟩ := List.getElem?_of_mem hx
   have e := congrArg (fun l => l[i]?) hl
   simp only [List.getElem?_map, hi, Option.map_some, Option.some.injEq] at e
   exact e
  have : m.map PV.frz = m.map id := List.map_congr_left fun x hx => by
   obtain ⟨i, hi⟩ := List.getElem?_of_mem hx
   obtain ⟨q, hq⟩ := hm i x hi
   exact key x (List.mem_of_getElem? hq)
  rw [this, List.map_id]
 rcases h.val with ⟨rfl, rfl⟩ | ⟨sp, rfl, hs, hf, hz⟩
 ·have : k = 0 := by simpa using hk
  subst this
  exact ⟨by rw [slcP_nils, bounds_hi (by omega)]; rfl, sl0_nils 1⟩
 ·have hsz : ∀ e ∈ es ++ sp, e.cells.length = 1 := fun e he => (List.mem_append.1 he).elim (h.sz e) (hs e)
  refine ⟨?_, .inr ⟨es.drop k ++ sp, rfl, ?_, ?_, ?_⟩, fun e he => h.sz e (List.mem_of_mem_take he), freeL_of_mem fun v hv => freeL_mem h.fr v (List.mem_of_mem_take hv), fzd h.fz fun i x hx => ?_⟩
  ·rw [slcP_sl, szOk_of hsz, bounds_hi (by omega)]
   simp only [Bool.not_true, Bool.false_eq_true, if_false, slcV, List.drop_zero, Option.some.injEq]
   rw [List.take_append_of_le_length hk, List.drop_append_of_le_length hk]
   split <;> rfl
  ·intro e he
   rcases List.mem_append.1 he with he | he
   ·exact h.sz e (List.mem_of_mem_drop he)
   ·exact hs e he
  ·refine freeL_of_mem fun v hv => ?_
   rcases List.mem_append.1 hv with hv | hv
   ·exact freeL_mem h.fr v (List.mem_of_mem_drop hv)
   ·exact freeL_mem hf v hv
  ·have e1 : PV.frzL (es.drop k) = es.drop k := fzd h.fz fun i x hx => ⟨k + i, by rw [List.getElem?_drop] at hx; exact hx⟩
   rw [frzL_map] at e1 hz ⊢
   rw [List.map_append, e1, hz]
  ·obtain ⟨q, hq⟩ := List.getElem?_of_mem (List.mem_of_mem_take (List.mem_of_getElem? hx))
   exact ⟨q, hq⟩

def gidV : PV → Option Nat
 | .osl id _ _ _ => some id
 | _ => none

structure GAcc (S0 : St) (sz : Nat) (S : St) (v : PV) (es : List PV) : Prop where
 acc : ((v = .emp ∨ v = .nils) ∧ es = []) ∨ ∃ id, S0.objs.length ≤ id ∧ v = .osl id 0 es.length sz ∧ S.objs[id]? = some (es.flatMap PV.cells) ∧ es ≠ []
 ok : ∀ e ∈ es, e.cells.length = sz ∧ e.cells.all PV.one = true

theorem flatl {sz : Nat} : ∀ {es : List PV}, (∀ e ∈ es, e.cells.length = sz) → (es.flatMap PV.cells).length = es.length * sz
 | [], _ => by simp
 | e :: es, h => by
  rw [List.flatMap_cons, List.length_append, h e (by simp), flatl (fun x hx => h x (by simp [hx])), List.length_cons, Nat.add_mul]; omega
theorem flat_all {es : List PV} (h : ∀ e ∈ es, e.cells.all PV.one = true) : (es.flatMap PV.cells).all PV.one = true := by
 rw [List.all_eq_true]
 intro x hx
 obtain ⟨e, he, hxe⟩ := List.mem_flatMap.1 hx
 exact (List.all_eq_true.1 (h e he)) x hxe

theorem GAcc.app {S0 S : St} {sz bytes : Nat} {v : PV} {es new : List PV} (h : GAcc S0 sz S v es) (hg : Grows S0 S) (hsz : 0 < sz) (hn : ∀ e ∈ new, e.cells.length = sz ∧ e.cells.all PV.one = true) (hb : (es.length + new.length) * bytes ≤ 140737488355328) :
  ∃ v' S', gappTo sz bytes S v new = some (v', S') ∧ GAcc S0 sz S' v' (es ++ new) ∧ Grows S0 S' ∧ S'.tips = S.tips ∧ S.objs.length ≤ S'.objs.length ∧
   (∀ i x, S.objs[i]? = some x → gidV v ≠ some i → S'.objs[i]? = some x) ∧ (∀ i, gidV v' = some i → i < S.objs.length → gidV v = some i) ∧ (v ≠ .nils → v' ≠ .nils) := by
 have hok : ∀ e ∈ es ++ new, e.cells.length = sz ∧ e.cells.all PV.one = true := fun e he => by
  rcases List.mem_append.1 he with he | he
  ·exact h.ok e he
  ·exact hn e he
 obtain ⟨o0, t0, rfl⟩ := hg
 unfold gappTo
 cases new with
 | nil =>
  rcases h.acc with ⟨hv | hv, rfl⟩ | ⟨id, h1, rfl, h2, h3⟩
  ·subst hv
   exact ⟨.emp, _, rfl, ⟨.inl ⟨.inl rfl, rfl⟩, by simp⟩, ⟨o0, t0, rfl⟩, rfl, Nat.le_refl _, fun _ _ h _ => h, fun i h => (by cases h), fun h => h⟩
  ·subst hv
   exact ⟨.nils, _, rfl, ⟨.inl ⟨.inr rfl, rfl⟩, by simp⟩, ⟨o0, t0, rfl⟩, rfl, Nat.le_refl _, fun _ _ h _ => h, fun i h => (by cases h), fun h => h⟩
  ·exact ⟨_, _, by simp, ⟨.inr ⟨id, h1, by simp, by simpa using h2, by simpa using h3⟩, hok⟩, ⟨o0, t0, rfl⟩, rfl, Nat.le_refl _, fun _ _ h _ => h, fun i h _ => h, fun h => h⟩
 | cons a new =>
  have hS : ∀ (x : List PV) (i : Nat) (y : List PV), (S0.objs ++ o0)[i]? = some y → ((S0.objs ++ o0) ++ [x])[i]? = some y := fun x i y h => by
   rw [List.getElem?_append_left (List.getElem?_eq_some_iff.1 h).1]; exact h
  simp only [List.isEmpty_cons, Bool.false_eq_true, if_false]
  have fresh : es = [] → ∃ v' S', (if (a :: new).length * bytes ≤ 140737488355328 then some (newG ⟨S0.objs ++ o0, S0.tips ++ t0⟩ sz (a :: new)) else none) = some (v', S') ∧ GAcc S0 sz S' v' (es ++ a :: new) ∧ Grows S0 S' ∧ S'.tips = S0.tips ++ t0 ∧ (S0.objs ++ o0).length ≤ S'.objs.length ∧
   (∀ i x, (S0.objs ++ o0)[i]? = some x → gidV v ≠ some i → S'.objs[i]? = some x) ∧ (∀ i, gidV v' = some i → i < (S0.objs ++ o0).length → gidV v = some i) ∧ (v ≠ .nils → v' ≠ .nils) := by
   intro he
   subst he
   rw [if_pos (by simpa using hb)]
   refine ⟨_, _, rfl, ⟨.inr ⟨(S0.objs ++ o0).length, by simp, by simp, by simp, by simp⟩, hok⟩, ⟨o0 ++ [(a :: new).flatMap PV.cells], t0, by simp [newG]⟩, rfl, by simp [newG], fun i x h _ => hS _ i x h, fun i h hlt => ?_, fun _ e => by cases e⟩
   simp only [newG, gidV, Option.some.injEq] at h
   omega
  rcases h.acc with ⟨hv | hv, he⟩ | ⟨id, h1, rfl, h2, h3⟩
  ·subst hv; exact fresh he
  ·subst hv; exact fresh he
  ·have hlt := (List.getElem?_eq_some_iff.1 h2).1
   have hfl := flatl (fun e he => (h.ok e he).1)
   have hpos : 0 < (es.flatMap PV.cells).length := by
    rw [hfl]
    have : 0 < es.length := by cases es <;> simp at h3 ⊢
    exact Nat.mul_pos this hsz
   have htk : (es.flatMap PV.cells).take (es.length * sz) = es.flatMap PV.cells := List.take_of_length_le (by rw [hfl]; exact Nat.le_refl _)
   simp only at h2
   simp only [h2]
   rw [if_pos ⟨trivial, trivial, hpos, by rw [hfl]; exact Nat.le_refl _, by rw [htk]; exact flat_all (fun e he => (h.ok e he).2), hb⟩, htk]
   refine ⟨_, _, rfl, ⟨.inr ⟨(S0.objs ++ o0).length, by simp, by simp, by simp, by simp⟩, hok⟩, ⟨o0.set (id - S0.objs.length) [] ++ [es.flatMap PV.cells ++ (a :: new).flatMap PV.cells], t0, ?_⟩, rfl, by simp, fun i x hx hne => ?_, fun i hi hlt2 => ?_, fun _ e => by cases e⟩
   ·simp only [St.mk.injEq, and_true]
    rw [List.set_append_right _ _ h1, List.append_assoc]
   ·have hne' : i ≠ id := fun e => hne (by rw [e]; rfl)
    rw [List.getElem?_append_left (by simp; have := (List.getElem?_eq_some_iff.1 hx).1; simpa using this), List.getElem?_set_ne (Ne.symm hne')]
    exact hx
   ·simp only [gidV, Option.some.injEq] at hi
    omega

theorem flat_set1 {sz : Nat} : ∀ {es : List PV} {i : Nat} {e e' : PV}, (∀ x ∈ es, x.cells.length = sz) → es[i]? = some e → e'.cells.length = sz →
  ∀ {j : Nat} {c : List PV}, j + c.length ≤ sz → e'.cells = putCells e.cells j c → putCells (es.flatMap PV.cells) (i * sz + j) c = (es.set i e').flatMap PV.cells
 | [], i, e, e', _, h, _, _, _, _, _ => by simp at h
 | a :: es, 0, e, e', hs, h, hl, j, c, hj, hc => by
  simp at h; subst h
  have ha := hs a (by simp)
  simp only [List.set_cons_zero, List.flatMap_cons, hc, putCells, Nat.zero_mul, Nat.zero_add]
  rw [List.take_append_of_le_length (by omega), List.drop_append_of_le_length (by omega)]
  simp
 | a :: es, i + 1, e, e', hs, h, hl, j, c, hj, hc => by
  have ha := hs a (by simp)
  have ih := flat_set1 (es := es) (i := i) (fun x hx => hs x (by simp [hx])) (by simpa using h) hl hj hc
  simp only [List.set_cons_succ, List.flatMap_cons]
  rw [← ih]
  have hmul : (i + 1) * sz + j = a.cells.length + (i * sz + j) := by rw [ha, Nat.add_mul]; omega
  simp only [putCells, hmul]
  rw [List.take_append, List.take_of_length_le (by omega), List.drop_append, List.drop_of_length_le (by omega)]
  simp [Nat.add_assoc]

theorem mapO_append {f : PV → Option PV} {a b c d : List PV} (h1 : mapO f a = some c) (h2 : mapO f b = some d) : mapO f (a ++ b) = some (c ++ d) := by
 induction a generalizing c with
 | nil => cases h1; exact h2
 | cons x a ih =>
  simp only [mapO] at h1
  split at h1
  ·rename_i y hy
   split at h1
   ·rename_i m hm
    cases h1
    simp only [List.cons_append, mapO, hy, ih hm]
   ·cases h1
  ·cases h1
theorem mapO_flat {α : Type} {f : PV → Option PV} {g h : α → PV} : ∀ {l : List α}, (∀ a ∈ l, mapO f (g a).cells = some (h a).cells) → mapO f ((l.map g).flatMap PV.cells) = some ((l.map h).flatMap PV.cells)
 | [], _ => rfl
 | a :: l, hf => by
  simp only [List.map_cons, List.flatMap_cons]
  exact mapO_append (hf a (by simp)) (mapO_flat (fun b hb => hf b (by simp [hb])))
theorem mapO_free' {objs : List (List PV)} {n0 k : Nat} : ∀ {l : List PV}, PV.freeL l = true → mapO (sol objs n0 (k + 1)) l = some l
 | [], _ => rfl
 | a :: l, h => by
  simp only [PV.freeL, Bool.and_eq_true] at h
  simp only [mapO, sol_id h.1, mapO_free' h.2]

theorem chunk_of {sz : Nat} (hsz : 2 ≤ sz) : ∀ {l : List (List PV)}, (∀ c ∈ l, c.length = sz) → ∀ {r : List PV}, chunk sz l.length (l.flatten ++ r) = l.map .agg
 | [], _, r => rfl
 | c :: l, h, r => by
  have hc := h c (by simp)
  simp only [List.length_cons, chunk, List.flatten_cons, List.map_cons, List.append_assoc]
  rw [List.take_append_of_le_length (by omega), List.take_of_length_le (by omega), List.drop_append_of_le_length (by omega), List.drop_of_length_le (by omega), List.nil_append]
  rw [chunk_of hsz (fun x hx => h x (by simp [hx]))]
  congr 1
  unfold mkE
  split
  ·rename_i a
   simp at hc; omega
  ·rfl
theorem chunk_one : ∀ {l r : List PV}, chunk 1 l.length (l ++ r) = l
 | [], r => rfl
 | c :: l, r => by
  simp only [List.length_cons, chunk, List.cons_append, List.take_succ_cons, List.take_zero, List.drop_succ_cons, List.drop_zero]
  rw [chunk_one]
  rfl

theorem sol_osl {objs : List (List PV)} {n0 k id n sz : Nat} {cs ds es : List PV} (hn : n0 ≤ id) (hs : 0 < sz) (hc : objs[id]? = some cs) (hl : cs.length = n * sz) (ho : cs.all PV.one = true) (hm : mapO (sol objs n0 k) cs = some ds) (he : chunk sz n ds = es) :
  sol objs n0 (k + 1) (.osl id 0 n sz) = some (.sl none es []) := by
 unfold sol
 have htk : cs.take (n * sz) = cs := List.take_of_length_le (by omega)
 simp only [PV.free, Bool.false_eq_true, if_false, hn, hs, and_self, if_true, hc, Nat.zero_add, List.drop_zero, htk, ho, hl, Nat.le_refl, hm, he]
theorem sol_emp {objs : List (List PV)} {n0 k : Nat} : sol objs n0 (k + 1) .emp = some (.sl none [] []) := by
 unfold sol; simp [PV.free]
end Ps
namespace Ps
set_option linter.unusedSimpArgs false
set_option linter.unusedVariables false
open Go
theorem fn_203 : T.fn 203 = some (.code ref04_Named) := rfl
theorem fn_204 : T.fn 204 = some (.code ref04_Live) := rfl
theorem fn_205 : T.fn 205 = some (.code ref04_At) := rfl
theorem fn_206 : T.fn 206 = some (.code ref04_step) := rfl
theorem fn_207 : T.fn 207 = some (.code ref04_Dir) := rfl
theorem fn_295 : T.fn 295 = some (.code ref04_with) := rfl
theorem fn_296 : T.fn 296 = some (.code ref04_without) := rfl

theorem rnamed_val {s : Nm} (hs : s.length ≤ maxLen) : cval T 203 [.str s] St0 = some (.bool (namedB s), St0) := by
 refine cval_ok' fn_203 rfl ?_
 simp -implicitDefEqProofs [ref04_Named]
 refine lp_up s.length (fun i fr S => fr 0 = .str s ∧ fr 3 = .int .i64 (i : Int) ∧ (s.take i).all chB = true ∧ S = St0) ?_ ?_ 0 (Nat.zero_le _) _ _ ⟨by simp, by simp, by simp, rfl⟩
 ·rintro i fr S hi ⟨h0, h3, ha, rfl⟩ k
  have hw := wrap_up hi hs
  have hc : s[i]? = some s[i] := List.getElem?_eq_getElem hi
  have hL : ∀ fr', fr' 0 = .str s → fr' 3 = .int .i64 ((i : Int) + 1) → chB s[i] = true → Ok (gval T (.lp ref04_Named_l0 :: .blk 0 :: [.code (.seq (.clr [(36, 43)] (.region ref04_Named_r7)) .ret)]) fr' St0) (Ends [.tmp 2] false St0 (.bool (namedB s)) St0) := by
   intro fr' g0 g3 gc
   refine k fr' St0 ⟨g0, by simpa using g3, ?_, rfl⟩
   rw [List.take_add_one, hc, List.all_append, ha]; simpa using gc
  have hR : ∀ fr', fr' 2 = .bool false → chB s[i] = false → Ends [.tmp 2] false St0 (.bool (namedB s)) St0 fr' St0 := by
   intro fr' g2 gc
   have : s.all chB = false := by
    rw [List.all_eq_false]
    exact ⟨s[i], List.getElem_mem hi, by simp [gc]⟩
   simp [g2, namedB, this]
  clear k
  rw [gval_lp]
  simp -implicitDefEqProofs [h0, h3, hi, hc]
  refine ok_br (fun a1 => ok_ret (hR _ (by simp) ?_)) (fun a1 => hL _ (by simp [h0]) (by simp [hw]) ?_)
  ·simp [chB] at a1 ⊢; omega
  ·simp [chB] at a1 ⊢; omega
 ·rintro fr S ⟨h0, h3, ha, rfl⟩
  rw [List.take_length] at ha
  rw [gval_lp]
  simp -implicitDefEqProofs [h0, h3, namedB, ha]
  congr 1; exact decide_eq_decide.2 (by omega)
theorem rnamed_pval {s : Nm} (hs : s.length ≤ maxLen) : pval T 203 [.str s] = some (.bool (namedB s)) := pval_st (rnamed_val hs) rfl rfl

abbrev RE := Nm × Int
def entR (e : RE) : PV := .agg [.str e.1, .int .i64 e.2]
@[simp] theorem entR_cells (e : RE) : (entR e).cells = [.str e.1, .int .i64 e.2] := rfl

def atR (n : Nm) : List RE → Int
 | [] => -1
 | (q, f) :: l => if q == n then f else atR n l
def withoutR (n : Nm) (l : List RE) : List RE := l.filter fun x => !(x.1 == n)
def withR (e : RE) : Bool → List RE → List RE
 | d, [] => if d then [] else [e]
 | d, x :: l => (if !d && Op.bytesLess e.1 x.1 then [e] else []) ++ ((if !(x.1 == e.1) then [x] else []) ++ withR e (d || Op.bytesLess e.1 x.1) l)

theorem entR_free (l : List RE) : PV.freeL (l.map entR) = true := freeL_map _ (fun _ => rfl) l
theorem entR_frz (l : List RE) : PV.frzL (l.map entR) = l.map entR := frzL_map' _ (fun _ => rfl) l
theorem entR_sz (l : List RE) : ∀ e ∈ l.map entR, e.cells.length = 2 := by
 intro e he
 obtain ⟨x, _, rfl⟩ := List.mem_map.1 he
 rfl

theorem at_val {l : List RE} {v : PV} (hv : Reads1 2 v (l.map entR)) (hl : l.length ≤ maxLen) {n : Nm} {S : St} : cval T 205 [v, .str n] S = some (.int .i64 (atR n l), S) := by
 refine cval_ok' fn_205 rfl ?_
 have hlen := hv.len
 rw [List.length_map] at hlen
 simp -implicitDefEqProofs [ref04_At]
 refine lp_up l.length (fun i fr S' => fr 0 = v ∧ fr 1 = .str n ∧ fr 5 = .int .i64 (i : Int) ∧ atR n l = atR n (l.drop i) ∧ S' = S) ?_ ?_ 0 (Nat.zero_le _) _ _ ⟨by simp, by simp, by simp, by simp, rfl⟩
 ·rintro i fr S' hi ⟨h0, h1, h5, ha, rfl⟩ k
  have hw := wrap_up hi hl
  have hg := hv.get i (by simpa using hi) .i64
  have hx : (l.map entR)[i]'(by simpa using hi) = entR l[i] := by simp
  rw [hx, entR_cells] at hg
  have hd : l.drop i = l[i] :: l.drop (i + 1) := List.drop_eq_getElem_cons hi
  have hL : ∀ fr', fr' 0 = v → fr' 1 = .str n → fr' 5 = .int .i64 ((i : Int) + 1) → (l[i].1 == n) = false → Ok (gval T (.lp ref04_At_l0 :: .blk 0 :: [.code (.seq (.region ref04_At_r6) .ret)]) fr' S') (Ends [.tmp 4] false S' (.int .i64 (atR n l)) S') := by
   intro fr' g0 g1 g5 gc
   refine k fr' S' ⟨g0, g1, by simpa using g5, ?_, rfl⟩
   rw [ha, hd]; simp only [atR, gc]; rfl
  have hR : ∀ fr', fr' 4 = .int .i64 l[i].2 → (l[i].1 == n) = true → Ends [.tmp 4] false S' (.int .i64 (atR n l)) S' fr' S' := by
   intro fr' g gc
   have : atR n l = l[i].2 := by rw [ha, hd]; simp only [atR, gc]; rfl
   simp [g, this]
  clear k
  by_cases e : (l[i].1 == n) = true
  ·rw [gval_lp]
   simp -implicitDefEqProofs [h0, h1, h5, hlen, hi, hg, e]
   have := hR (upd fr 4 (.int .i64 l[i].2)) (by simp) e
   simpa using this
  ·have e' : (l[i].1 == n) = false := by simpa using e
   rw [gval_lp]
   simp -implicitDefEqProofs [h0, h1, h5, hlen, hi, hg, e']
   exact hL _ (by simp [h0]) (by simp [h1]) (by simp [hw]) e'
 ·rintro fr S' ⟨h0, h1, h5, ha, rfl⟩
  rw [List.drop_length] at ha
  rw [gval_lp]
  simp -implicitDefEqProofs [h0, h1, h5, hlen, ha, atR]

theorem withoutR_snoc (n : Nm) (a : List RE) (x : RE) : withoutR n (a ++ [x]) = withoutR n a ++ (if x.1 == n then [] else [x]) := by
 simp only [withoutR, List.filter_append]
 by_cases h : (x.1 == n) = true
 ·simp [h]
 ·have h : (x.1 == n) = false := by simpa using h
  simp [h]

theorem without_val {l : List RE} {v : PV} (hv : Reads1 2 v (l.map entR)) (hl : l.length ≤ 1048576) {n : Nm} {S : St} : ∃ v', cval T 296 [v, .str n] S = some (v', S) ∧ Sl0 2 v' ((withoutR n l).map entR) := by
 have hlen := hv.len
 rw [List.length_map] at hlen
 have hl' : l.length ≤ maxLen := by unfold maxLen; omega
 obtain ⟨r, S2, h, h2, h3⟩ := cval_ex (T := T) fn_296 (args := [v, .str n]) (S := S) rfl (R := fun r S2 => S2 = S ∧ Sl0 2 r ((withoutR n l).map entR)) (by
  simp -implicitDefEqProofs [ref04_without]
  refine lp_up l.length (fun i fr S' => fr 0 = v ∧ fr 1 = .str n ∧ fr 6 = .int .i64 (i : Int) ∧ AccG S 2 S' (fr 5) ((withoutR n (l.take i)).map entR)) ?_ ?_ 0 (Nat.zero_le _) _ _ ⟨by simp, by simp, by simp, by simpa [withoutR] using accg_nil 2 (Grows.refl S)⟩
  ·rintro i fr S' hi ⟨h0, h1, h6, ha⟩ k
   have hw := wrap_up hi hl'
   have hg := hv.get i (by simpa using hi) .i64
   have hx : (l.map entR)[i]'(by simpa using hi) = entR l[i] := by simp
   rw [hx, entR_cells] at hg
   have ht : l.take (i + 1) = l.take i ++ [l[i]] := by rw [List.take_add_one, List.getElem?_eq_getElem hi]; rfl
   have hle : ((withoutR n (l.take i)).map entR).length ≤ 1048576 := by
    have := List.length_filter_le (fun x : RE => !(x.1 == n)) (l.take i)
    simp only [withoutR, List.length_map, List.length_take] at this ⊢; omega
   by_cases e : (l[i].1 == n) = true
   ·have hL : ∀ fr', fr' 0 = v → fr' 1 = .str n → fr' 6 = .int .i64 ((i : Int) + 1) → fr' 5 = fr 5 → Ok (gval T (.lp ref04_without_l0 :: .blk 0 :: [.code (.seq (.clr [(27, 28)] (.region ref04_without_r7)) .ret)]) fr' S') _ := fun fr' g0 g1 g6 g5 => by
     refine k fr' S' ⟨g0, g1, by simpa using g6, ?_⟩
     rw [g5, ht, withoutR_snoc, if_pos e, List.append_nil]; exact ha
    rw [gval_lp]
    simp -implicitDefEqProofs [h0, h1, h6, hlen, hi, hg, e]
    exact hL _ (by simp [h0]) (by simp [h1]) (by simp [hw]) (by simp)
   ·have e' : (l[i].1 == n) = false := by simpa using e
    obtain ⟨v', S1, a1, a2, a3⟩ := ha.push (bytes := 24) (entR l[i]) (by omega)
    have hL : ∀ fr', fr' 0 = v → fr' 1 = .str n → fr' 6 = .int .i64 ((i : Int) + 1) → fr' 5 = v' → Ok (gval T (.lp ref04_without_l0 :: .blk 0 :: [.code (.seq (.clr [(27, 28)] (.region ref04_without_r7)) .ret)]) fr' S1) _ := fun fr' g0 g1 g6 g5 => by
     refine k fr' S1 ⟨g0, g1, by simpa using g6, ?_⟩
     rw [g5, ht, withoutR_snoc, if_neg (by simp [e']), List.map_append]; exact a2
    simp only [entR] at a1
    rw [gval_lp]
    simp -implicitDefEqProofs [h0, h1, h6, hlen, hi, hg, e', pstep, elems, setParts, partOf, a1]
    exact hL _ (by simp [h0]) (by simp [h1]) (by simp [hw]) (by simp)
  ·rintro fr S' ⟨h0, h1, h6, ha⟩
   rw [List.take_length] at ha
   obtain ⟨f1, f2⟩ := ha.sl0 (entR_sz _) (entR_free _) (entR_frz _)
   rw [gval_lp]
   simp -implicitDefEqProofs [h0, h1, h6, hlen, f1, f2])
 subst h2
 exact ⟨r, h, h3⟩

theorem withR_len (e : RE) : ∀ (d : Bool) (l : List RE), (withR e d l).length ≤ l.length + (if d then 0 else 1)
 | d, [] => by cases d <;> simp [withR]
 | d, x :: l => by
  have := withR_len e (d || Op.bytesLess e.1 x.1) l
  simp only [withR, List.length_append, List.length_cons]
  obtain ⟨m, hm⟩ : ∃ m, m = (if (!(x.1 == e.1)) = true then [x] else []) := ⟨_, rfl⟩
  have h2 : m.length ≤ 1 := by rw [hm]; split <;> simp
  rw [← hm]
  clear hm
  cases d with
  | true => simp at this ⊢; omega
  | false =>
   cases hb : Op.bytesLess e.1 x.1 with
   | true => simp [hb] at this ⊢; omega
   | false => simp [hb] at this ⊢; omega

theorem with_val {l : List RE} {v : PV} (hv : Reads1 2 v (l.map entR)) (hl : l.length ≤ 1048576) {x : RE} {S : St} : ∃ v', cval T 295 [v, entR x] S = some (v', S) ∧ Sl0 2 v' ((withR x false l).map entR) := by
 have hlen := hv.len
 rw [List.length_map] at hlen
 have hl' : l.length ≤ maxLen := by unfold maxLen; omega
 obtain ⟨r, S2, h, h2, h3⟩ := cval_ex (T := T) fn_295 (args := [v, entR x]) (S := S) rfl (R := fun r S2 => S2 = S ∧ Sl0 2 r ((withR x false l).map entR)) (by
  simp -implicitDefEqProofs [ref04_with, pstep]
  refine lp_up l.length (fun i fr S' => fr 0 = v ∧ fr 3 = .ref [.str x.1, .int .i64 x.2] ∧ fr 7 = .int .i64 (i : Int) ∧ ∃ d p, fr 6 = .bool d ∧ AccG S 2 S' (fr 5) (p.map entR) ∧ withR x false l = p ++ withR x d (l.drop i) ∧ p.length ≤ 2 * i) ?_ ?_ 0 (Nat.zero_le _) _ _ ⟨by simp, by simp, by simp, false, [], by simp, by simpa using accg_nil 2 (Grows.refl S), by simp, by simp⟩
  ·rintro i fr S' hi ⟨h0, h3, h7, d, p, h6, ha, hp, hpl⟩ k
   have hw := wrap_up hi hl'
   have hg := hv.get i (by simpa using hi) .i64
   have hx : (l.map entR)[i]'(by simpa using hi) = entR l[i] := by simp
   rw [hx, entR_cells] at hg
   have hd : l.drop i = l[i] :: l.drop (i + 1) := List.drop_eq_getElem_cons hi
   rw [hd] at hp
   simp only [withR] at hp
   -- the second half: the entry that is there
   have second : ∀ (fr2 : Fr) (S2 : St) (d2 : Bool) (p2 : List RE), fr2 0 = v → fr2 3 = .ref [.str x.1, .int .i64 x.2] → fr2 7 = .int .i64 (i : Int) → fr2 6 = .bool d2 → AccG S 2 S2 (fr2 5) (p2.map entR) →
     withR x false l = p2 ++ ((if !(l[i].1 == x.1) then [l[i]] else []) ++ withR x d2 (l.drop (i + 1))) → p2.length ≤ 2 * i + 1 →
     Ok (gval T (.ops ref04_with_r9 :: .clr [(30, 37)] :: .code (.cond (V 37) (.clr [(38, 45)] (.region ref04_with_r10)) .skip) :: .blk 1 :: .code (.clr [(12, 14)] (.region ref04_with_r5)) :: .lp ref04_with_l0 :: .blk 0 :: [.code (.seq (.seq (.clr [(45, 46)] (.region ref04_with_r11)) (.cond (V 46) (.clr [(47, 51)] (.region ref04_with_r12)) .skip)) (.seq (.clr [(51, 52)] (.region ref04_with_r13)) .ret))]) fr2 S2)
      (fun fr S1 => (finish false S S1 (fr 4)).2 = S ∧ Sl0 2 (finish false S S1 (fr 4)).1 ((withR x false l).map entR)) := by
    intro fr2 S2 d2 p2 g0 g3 g7 g6 ga gp gl
    have hple : (p2.map entR).length ≤ 4194304 := by simp; omega
    by_cases e : (l[i].1 == x.1) = true
    ·have hL : ∀ fr', fr' 0 = v → fr' 3 = .ref [.str x.1, .int .i64 x.2] → fr' 7 = .int .i64 ((i : Int) + 1) → fr' 6 = .bool d2 → fr' 5 = fr2 5 → Ok (gval T (.lp ref04_with_l0 :: .blk 0 :: _) fr' S2) _ := fun fr' q0 q3 q7 q6 q5 =>
      k fr' S2 ⟨q0, q3, by simpa using q7, d2, p2, q6, by rw [q5]; exact ga, by rw [gp, if_neg (by simp [e]), List.nil_append], by omega⟩
     clear k
     simp -implicitDefEqProofs [g0, g3, g7, g6, hg, e]
     exact hL _ (by simp [g0]) (by simp [g3]) (by simp [hw]) (by simp [g6]) (by simp)
    ·have e' : (l[i].1 == x.1) = false := by simpa using e
     obtain ⟨v', S1, a1, a2, a3⟩ := ga.push (bytes := 24) (entR l[i]) (by omega)
     have hL : ∀ fr', fr' 0 = v → fr' 3 = .ref [.str x.1, .int .i64 x.2] → fr' 7 = .int .i64 ((i : Int) + 1) → fr' 6 = .bool d2 → fr' 5 = v' → Ok (gval T (.lp ref04_with_l0 :: .blk 0 :: _) fr' S1) _ := fun fr' q0 q3 q7 q6 q5 =>
      k fr' S1 ⟨q0, q3, by simpa using q7, d2, p2 ++ [l[i]], q6, by rw [q5, List.map_append]; exact a2, by rw [gp, if_pos (by simp [e']), List.append_assoc], by simp; omega⟩
     clear k
     simp only [entR] at a1
     simp -implicitDefEqProofs [g0, g3, g7, g6, hg, e', pstep, elems, setParts, partOf, a1]
     exact hL _ (by simp [g0]) (by simp [g3]) (by simp [hw]) (by simp [g6]) (by simp)
   clear k
   rw [gval_lp]
   by_cases c : (!d && Op.bytesLess x.1 l[i].1) = true
   ·have hd' : d = false := by cases d <;> simp_all
    have hlt : Op.bytesLess x.1 l[i].1 = true := by cases d <;> simp_all
    subst hd'
    obtain ⟨v', S1, a1, a2, a3⟩ := ha.push (bytes := 24) (entR x) (by simp; omega)
    have hL : ∀ fr', fr' 0 = v → fr' 3 = .ref [.str x.1, .int .i64 x.2] → fr' 7 = .int .i64 (i : Int) → fr' 6 = .bool true → fr' 5 = v' → Ok (gval T (.ops ref04_with_r9 :: .clr [(30, 37)] :: .code (.cond (V 37) (.clr [(38, 45)] (.region ref04_with_r10)) .skip) :: .blk 1 :: .code (.clr [(12, 14)] (.region ref04_with_r5)) :: .lp ref04_with_l0 :: .blk 0 :: _) fr' S1) _ :=
     fun fr' q0 q3 q7 q6 q5 => second fr' S1 true (p ++ [x]) q0 q3 q7 q6 (by rw [q5, List.map_append]; exact a2) (by rw [hp, if_pos (by simp [hlt])]; simp [hlt]) (by simp; omega)
    clear second
    simp only [entR] at a1
    simp -implicitDefEqProofs [-ref04_with_r9_go, h0, h3, h7, h6, hlen, hi, hg, hlt, pstep, elems, setParts, partOf, a1]
    exact hL _ (by simp [h0]) (by simp [h3]) (by simp [h7]) (by simp) (by simp)
   ·have c' : (!d && Op.bytesLess x.1 l[i].1) = false := by simpa using c
    have hL : ∀ fr', fr' 0 = v → fr' 3 = .ref [.str x.1, .int .i64 x.2] → fr' 7 = .int .i64 (i : Int) → fr' 6 = .bool d → fr' 5 = fr 5 → Ok (gval T (.ops ref04_with_r9 :: .clr [(30, 37)] :: .code (.cond (V 37) (.clr [(38, 45)] (.region ref04_with_r10)) .skip) :: .blk 1 :: .code (.clr [(12, 14)] (.region ref04_with_r5)) :: .lp ref04_with_l0 :: .blk 0 :: _) fr' S') _ :=
     fun fr' q0 q3 q7 q6 q5 => second fr' S' d p q0 q3 q7 q6 (by rw [q5]; exact ha) (by
      rw [hp, if_neg (by simp [c'])]
      have hdd : (d || Op.bytesLess x.1 l[i].1) = d := by cases d <;> simp_all
      rw [hdd, List.nil_append]) (by omega)
    clear second
    simp -implicitDefEqProofs [-ref04_with_r9_go, h0, h3, h7, h6, hlen, hi, hg]
    cases d with
    | true =>
     simp -implicitDefEqProofs [-ref04_with_r9_go]
     exact hL _ (by simp [h0]) (by simp [h3]) (by simp [h7]) (by simp [h6]) (by simp)
    | false =>
     have hlt : Op.bytesLess x.1 l[i].1 = false := by simpa using c'
     simp -implicitDefEqProofs [-ref04_with_r9_go, hlt]
     exact hL _ (by simp [h0]) (by simp [h3]) (by simp [h7]) (by simp [h6]) (by simp)
  ·rintro fr S' ⟨h0, h3, h7, d, p, h6, ha, hp, hpl⟩
   rw [List.drop_length] at hp
   cases d with
   | true =>
    simp only [withR, if_true, List.append_nil] at hp
    rw [← hp] at ha
    obtain ⟨f1, f2⟩ := ha.sl0 (entR_sz _) (entR_free _) (entR_frz _)
    rw [gval_lp]
    simp -implicitDefEqProofs [h0, h3, h7, h6, hlen, f1, f2]
   | false =>
    simp only [withR, Bool.false_eq_true, if_false] at hp
    obtain ⟨v', S1, a1, a2, a3⟩ := ha.push (bytes := 24) (entR x) (by simp; omega)
    have a2 : AccG S 2 S1 v' ((p ++ [x]).map entR) := by rw [List.map_append]; exact a2
    rw [← hp] at a2
    obtain ⟨f1, f2⟩ := a2.sl0 (entR_sz _) (entR_free _) (entR_frz _)
    simp only [entR] at a1
    rw [gval_lp]
    simp -implicitDefEqProofs [h0, h3, h7, h6, hlen, pstep, elems, setParts, partOf, a1, f1, f2])
 subst h2
 exact ⟨r, h, h3⟩
end Ps
