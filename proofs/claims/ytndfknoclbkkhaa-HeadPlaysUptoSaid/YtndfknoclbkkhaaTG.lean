/- A record in memory of its own, as the head's calls take it; a record that is written over. -/
import Derived.Test.YtndfknoclbkkhaaTE
namespace Ps
set_option linter.unusedSimpArgs false
set_option linter.unusedVariables false
open Go
theorem fn_191 : T.fn 191 = some (.code z58) := rfl

def atS (x : Sr) (l : List Sr) : Nat := (l.takeWhile fun y => ltS y x).length
theorem atS_cons (x y : Sr) (l : List Sr) : atS x (y :: l) = if ltS y x then atS x l + 1 else 0 := by
 unfold atS
 rw [List.takeWhile_cons]
 cases ltS y x <;> simp
theorem atS_le (x : Sr) : ∀ l : List Sr, atS x l ≤ l.length
 | [] => by simp [atS]
 | y :: l => by have := atS_le x l; rw [atS_cons, List.length_cons]; split <;> omega
theorem atS_bef (x : Sr) : ∀ (l : List Sr) (j : Nat) (hj : j < l.length), j < atS x l → ltS l[j] x = true
 | [], j, hj, _ => by simp at hj
 | y :: l, j, hj, h => by
  rw [atS_cons] at h
  cases hc : ltS y x with
  | false => rw [hc] at h; simp at h
  | true =>
   rw [hc, if_pos rfl] at h
   cases j with
   | zero => exact hc
   | succ j => exact atS_bef x l j (by simpa using hj) (by omega)
theorem atS_aft (x : Sr) : ∀ (l : List Sr) (h : atS x l < l.length), ltS l[atS x l] x = false
 | [], h => by simp at h
 | y :: l, h => by
  cases hc : ltS y x with
  | false =>
   have e : atS x (y :: l) = 0 := by rw [atS_cons, hc]; rfl
   simp only [e, List.getElem_cons_zero]; exact hc
  | true =>
   have e : atS x (y :: l) = atS x l + 1 := by rw [atS_cons, hc]; rfl
   have h' : atS x l < l.length := by rw [e, List.length_cons] at h; omega
   simp only [e, List.getElem_cons_succ]; exact atS_aft x l h'
def insS (x : Sr) (l : List Sr) : List Sr := l.take (atS x l) ++ x :: l.drop (atS x l)
theorem insS_cons (x y : Sr) (l : List Sr) : insS x (y :: l) = if ltS y x then y :: insS x l else x :: y :: l := by
 unfold insS atS
 rw [List.takeWhile_cons]
 cases ltS y x <;> simp
theorem insS_perm (x : Sr) : ∀ l : List Sr, (insS x l).Perm (x :: l)
 | [] => by simp [insS]
 | y :: l => by
  rw [insS_cons]
  split
  ·exact ((insS_perm x l).cons y).trans (List.Perm.swap x y l)
  ·exact List.Perm.refl _
def SrtS (l : List Sr) : Prop := l.Pairwise fun x y => ltS y x = false
theorem insS_srt (x : Sr) : ∀ {l : List Sr}, SrtS l → SrtS (insS x l)
 | [], _ => by simp [insS, SrtS]
 | y :: l, h => by
  have hl := List.pairwise_cons.1 h
  rw [insS_cons]
  cases hc : ltS y x with
  | true =>
   simp only [if_true]
   refine List.pairwise_cons.2 ⟨fun z hz => ?_, insS_srt x hl.2⟩
   rcases List.mem_cons.1 ((insS_perm x l).mem_iff.1 hz) with rfl | hz
   ·cases hq : ltS z y with
    | false => rfl
    | true => have := swo_ltS.trans _ _ _ hc hq; rw [swo_ltS.irrefl] at this; cases this
   ·exact hl.1 z hz
  | false =>
   simp only [Bool.false_eq_true, if_false]
   refine List.pairwise_cons.2 ⟨fun z hz => ?_, h⟩
   rcases List.mem_cons.1 hz with rfl | hz
   ·exact hc
   ·exact swo_ltS.ntrans _ _ _ (hl.1 z hz) hc
def serG : List Sr → List Sr → List Sr
 | [], l => l
 | x :: r, l => serG r (if noSm x then l else insS x l)
theorem serG_perm : ∀ (r l : List Sr), (serG r l).Perm (keptS r ++ l)
 | [], l => by simp [serG, keptS]
 | x :: r, l => by
  rw [serG]
  refine (serG_perm r _).trans ?_
  unfold keptS
  cases h : noSm x with
  | true => simp [h]
  | false =>
   simp only [List.filter_cons, h, Bool.not_false, if_true, Bool.false_eq_true, if_false, List.cons_append]
   exact ((insS_perm x l).append_left _).trans List.perm_middle
theorem serG_srt : ∀ (r : List Sr) {l : List Sr}, SrtS l → SrtS (serG r l)
 | [], l, h => h
 | x :: r, l, h => by
  rw [serG]
  refine serG_srt r ?_
  cases noSm x
  ·exact insS_srt x h
  ·exact h
theorem serG_snoc : ∀ (r : List Sr) (x : Sr) (l : List Sr), serG (r ++ [x]) l = (if noSm x then serG r l else insS x (serG r l))
 | [], x, l => rfl
 | y :: r, x, l => by rw [List.cons_append, serG, serG_snoc r x]; rfl

theorem IsSl.hi {sz : Nat} {v : PV} {es : List PV} (h : IsSl sz v es) {hi : Nat} {k : IntKind} (hh : hi ≤ es.length) : ∃ v', slcP sz none (some (.int k (hi : Int))) v = some v' ∧ IsSl sz v' (es.take hi) := by
 rcases h with ⟨rfl, rfl⟩ | ⟨tip, sp, rfl, h⟩
 ·refine ⟨.nils, ?_, .inl ⟨rfl, by simp⟩⟩
  have : hi = 0 := by simpa using hh
  subst this
  rw [slcP_nils, bounds_hi (by omega)]
 ·refine ⟨.sl (if hi = es.length then tip else none) (((es ++ sp).take hi).drop 0) ((es ++ sp).drop hi), ?_, .inr ⟨if hi = es.length then tip else none, (es ++ sp).drop hi, ?_, ?_⟩⟩
  ·rw [slcP_sl, szOk_of h, bounds_hi (by omega)]; rfl
  ·rw [List.drop_zero, List.take_append_of_le_length hh]
  ·intro e he
   refine h e ?_
   rcases List.mem_append.1 he with he | he
   ·exact List.mem_append_left _ (List.mem_of_mem_take he)
   ·exact List.mem_of_mem_drop he

theorem serE_cs (l : List Sr) : ∀ e ∈ l.map serE, e.cells.length = 2 := fun e he => by
 obtain ⟨x, _, rfl⟩ := List.mem_map.1 he; rfl

theorem rat_loop {vl v : PV} {rs out : List Sr} (hvl : Reads1 2 vl (rs.map serE)) (hv : Reads1 2 v (out.map serE)) (hok : ∀ x ∈ rs, SeF x) (hok2 : ∀ x ∈ out, SeF x) (hl : out.length ≤ 256) {i : Nat} (hi : i < rs.length) (hi2 : rs.length ≤ 256) {S : St}
  {K : List Kt} {Q : Fr → St → Prop} {fr : Fr} (f0 : fr 0 = vl) (f3 : fr 3 = v) (f4 : fr 4 = .int .i64 (i : Int)) (f5 : fr 5 = .int .i64 0)
  (k : ∀ fr', fr' 0 = vl → fr' 3 = v → fr' 4 = .int .i64 (i : Int) → fr' 5 = .int .i64 (atS rs[i] out : Int) → Ok (gval T K fr' S) Q) :
  Ok (gval T (.lp z58_l1 :: .blk 2 :: K) fr S) Q := by
 have hlen := hv.len
 rw [List.length_map] at hlen
 have gi := serE_get hvl hi (k := .i64)
 obtain ⟨x, hx⟩ : ∃ x, x = rs[i] := ⟨_, rfl⟩
 have hxo := hok x (by rw [hx]; exact List.getElem_mem hi)
 rw [← hx] at gi k
 have hat := atS_le x out
 have hbef := atS_bef x out
 have haft := atS_aft x out
 refine lp_up (atS x out) (fun j fr S' => fr 0 = vl ∧ fr 3 = v ∧ fr 4 = .int .i64 (i : Int) ∧ fr 5 = .int .i64 (j : Int) ∧ S' = S) ?_ ?_ 0 (Nat.zero_le _) _ _ ⟨f0, f3, f4, by simpa using f5, rfl⟩
 ·clear k
  rintro j fr S' hj ⟨f0, f3, f4, f5, rfl⟩ k
  have hjl : j < out.length := by omega
  have hw : IntKind.i64.wrap ((j : Int) + 1) = ((j + 1 : Nat) : Int) := by rw [wrap_i64 (by omega) (by omega)]; omega
  have hlt : (j : Int) < (out.length : Int) := by omega
  have gj := serE_get hv hjl (k := .i64)
  have hb := hbef j hjl hj
  obtain ⟨y, hy⟩ : ∃ y, y = out[j] := ⟨_, rfl⟩
  have hyo := hok2 y (by rw [hy]; exact List.getElem_mem hjl)
  rw [← hy] at gj hb
  have hc := rcmp_val hyo.ok.lab.1.reads hxo.ok.lab.1.reads (by have := hyo.ok.lab.2.1; unfold maxLen; omega) S'
  have hneg : cmpL y.lb x.lb < 0 := by simpa [ltS] using hb
  have hL := fun fr' => k fr' S'
  clear k
  rw [gval_lp]
  simp -implicitDefEqProofs [f0, f3, f4, f5, hlen, hlt, hjl, gj, gi, part1, hc, hneg]
  exact hL _ ⟨by simp [f0], by simp [f3], by simp [f4], by simp [hw], rfl⟩
 ·rintro fr S' ⟨f0, f3, f4, f5, rfl⟩
  by_cases hz : atS x out < out.length
  ·have hlt : ((atS x out : Nat) : Int) < (out.length : Int) := by omega
   have gj := serE_get hv hz (k := .i64)
   have ha := haft hz
   obtain ⟨y, hy⟩ : ∃ y, y = out[atS x out] := ⟨_, rfl⟩
   have hyo := hok2 y (by rw [hy]; exact List.getElem_mem hz)
   rw [← hy] at gj ha
   have hc := rcmp_val hyo.ok.lab.1.reads hxo.ok.lab.1.reads (by have := hyo.ok.lab.2.1; unfold maxLen; omega) S'
   have hneg : ¬ cmpL y.lb x.lb < 0 := by simpa [ltS] using ha
   rw [gval_lp]
   simp -implicitDefEqProofs [f0, f3, f4, f5, hlen, hlt, hz, gj, gi, part1, hc, hneg]
   exact k _ (by simp [f0]) (by simp [f3]) (by simp [f4]) (by simp [f5])
  ·have hlt : ¬ ((atS x out : Nat) : Int) < (out.length : Int) := by omega
   rw [gval_lp]
   simp -implicitDefEqProofs [f0, f3, f4, f5, hlen, hlt, hz]
   exact k _ (by simp [f0]) (by simp [f3]) (by simp [f4]) (by simp [f5])

theorem rseries_val {S : St} {vl : PV} {rs : List Sr} (h : RL vl rs) (hl : rs.length ≤ 256) : ∃ v l, cval T 191 [vl] S = some (v, S) ∧ SeriesOk (abs rs) v l := by
 have hvl := h.sl.reads
 have hlen := hvl.len
 rw [List.length_map] at hlen
 obtain ⟨v, S2, hc, h2, h3⟩ := cval_ex (T := T) fn_191 (args := [vl]) (S := S) rfl (R := fun v S2 => S2 = S ∧ Reads1 2 v ((serG rs []).map serE)) (by
  simp -implicitDefEqProofs [z58]
  refine lp_up rs.length (fun j fr S' => fr 0 = vl ∧ fr 4 = .int .i64 (j : Int) ∧ AccG S 2 S' (fr 3) ((serG (rs.take j) []).map serE)) ?_ ?_ 0 (Nat.zero_le _) _ _ ⟨by simp, by simp, by simpa [serG] using accg_nil 2 (Grows.refl S)⟩
  ·rintro j fr S' hj ⟨f0, f4, ha⟩ k
   have hw : IntKind.i64.wrap ((j : Int) + 1) = ((j + 1 : Nat) : Int) := by rw [wrap_i64 (by omega) (by omega)]; omega
   have hlt : (j : Int) < (rs.length : Int) := by omega
   have gi := serE_get hvl hj (k := .i64)
   obtain ⟨x, hx⟩ : ∃ x, x = rs[j] := ⟨_, rfl⟩
   have hxo := h.ok x (by rw [hx]; exact List.getElem_mem hj)
   have hsl := hxo.ok.slen
   have ht : rs.take (j + 1) = rs.take j ++ [x] := by rw [List.take_add_one, List.getElem?_eq_getElem hj, hx]; rfl
   obtain ⟨out, hout⟩ : ∃ out, out = serG (rs.take j) [] := ⟨_, rfl⟩
   have hmem : ∀ y ∈ out, SeF y := fun y hy => by
    rw [hout] at hy
    have := (serG_perm (rs.take j) []).mem_iff.1 hy
    rw [List.append_nil] at this
    exact h.ok y (List.mem_of_mem_take (List.mem_filter.1 this).1)
   have hol : out.length ≤ j := by
    rw [hout, (serG_perm (rs.take j) []).length_eq, List.append_nil]
    refine Nat.le_trans (List.length_filter_le _ _) ?_
    rw [List.length_take]; omega
   have hL := fun fr' S2 => k fr' S2
   rw [ht, serG_snoc, ← hout] at hL
   rw [← hout] at ha
   clear k
   by_cases hno : noSm x = true
   ·have h0 : x.sm.length = 0 := by simpa [noSm] using hno
    rw [if_pos hno] at hL
    rw [← hx] at gi
    rw [gval_lp]
    simp -implicitDefEqProofs [f0, f4, hlen, hlt, hj, gi, part1, hsl, h0]
    exact hL _ S' ⟨by simp [f0], by simp [hw], by simpa using ha⟩
   ·have h0 : ((x.sm.length : Int) == 0) = false := by
     have : x.sm.length ≠ 0 := fun e => hno (by simp [noSm, e])
     rw [beq_eq_false_iff_ne]; omega
    rw [if_neg hno] at hL
    obtain ⟨n, hn⟩ : ∃ n, n = atS x out := ⟨_, rfl⟩
    have hnl : n ≤ out.length := by rw [hn]; exact atS_le x out
    have hisl := ha.isSl (serE_cs out)
    obtain ⟨v1, s1, i1⟩ := hisl.hi (hi := n) (k := .i64) (by rw [List.length_map]; exact hnl)
    obtain ⟨v2, s2, i2⟩ := hisl.lo (lo := n) (k := .i64) (by rw [List.length_map]; exact hnl)
    rw [← List.map_take] at i1
    rw [← List.map_drop] at i2
    have hap1 : ∀ S, appendedS S 2 v1 = some ((out.take n).map serE) := fun S => i1.appdS
    have hap2 : ∀ S, appendedS S 2 v2 = some ((out.drop n).map serE) := fun S => i2.appdS
    obtain ⟨w1, S1, e1, a1, o1⟩ := (accg_new 2 [] ha.grows).app (bytes := 48) ((out.take n).map serE) (by simp; omega)
    simp only [List.length_nil, List.nil_append] at e1 a1
    obtain ⟨w2, S2, e2, a2, o2⟩ := a1.push (bytes := 48) (serE x) (by simp; omega)
    rw [show (out.take n).map serE ++ [serE x] = (out.take n ++ [x]).map serE by simp] at a2
    obtain ⟨w3, S3, e3, a3, o3⟩ := a2.app (bytes := 48) ((out.drop n).map serE) (by simp; omega)
    rw [← List.map_append, List.append_assoc, List.singleton_append, hn] at a3
    have a3' : AccG S 2 S3 w3 ((insS x out).map serE) := a3
    obtain ⟨A, hA⟩ : ∃ A, A = (out.take n).map serE := ⟨_, rfl⟩
    obtain ⟨B, hB⟩ : ∃ B, B = (out.drop n).map serE := ⟨_, rfl⟩
    rw [← hA] at e1 hap1
    rw [← hB] at e3 hap2
    obtain ⟨ho1, ho2⟩ := hxo.ok.one
    rw [gval_lp]
    simp -implicitDefEqProofs [f0, f4, hlen, hlt, hj, gi, part1]
    rw [← hx]
    simp -implicitDefEqProofs [f0, f4, hsl, h0]
    refine rat_loop hvl (ha.isSl (serE_cs out)).reads h.ok hmem (by omega) hj hl (by simp [f0]) (by simp) (by simp [f4]) (by simp) (fun fr' g0 g3 g4 g5 => ?_)
    rw [← hx, ← hn] at g5
    rw [← hx] at gi
    simp only [serE] at e2
    simp -implicitDefEqProofs [g0, g3, g4, g5, pstep, elems, setParts, newArr, appP, s1, s2, hap1, hap2, e1, e2, e3, gi, part2, szOk, ho1, ho2]
    exact hL _ S3 ⟨by simp [g0], by simp [hw], by simpa using a3'⟩
  ·rintro fr S' ⟨f0, f4, ha⟩
   rw [List.take_length] at ha
   have hmem : ∀ y ∈ serG rs [], SeF y := fun y hy => by
    have := (serG_perm rs []).mem_iff.1 hy
    rw [List.append_nil] at this
    exact h.ok y (List.mem_filter.1 this).1
   have h4 := ha.sl0 (serE_cs _) (serF_free hmem) (serF_frz hmem)
   rw [gval_lp]
   simp -implicitDefEqProofs [f0, f4, hlen, h4.1]
   exact h4.2.reads)
 subst h2
 refine ⟨v, serG rs [], hc, h3, fun y hy => ?_, ?_, ?_⟩
 ·have := (serG_perm rs []).mem_iff.1 hy
  rw [List.append_nil] at this
  exact h.ok y (List.mem_filter.1 this).1
 ·rw [← abs_kept]
  have := serG_perm rs []
  rw [List.append_nil] at this
  exact this.map _
 ·have := serG_srt rs (l := []) List.Pairwise.nil
  exact List.Pairwise.imp (fun {a b} hab => by simpa [ltS] using hab) this
end Ps
namespace Ps
set_option linter.unusedSimpArgs false
set_option linter.unusedVariables false
open Go
theorem fn_69 : T.fn 69 = some (.code z81) := rfl
theorem fn_72 : T.fn 72 = some (.code z68) := rfl

def OwnO (n sz : Nat) (S : St) (v : PV) (es : List PV) : Prop := (v = .emp ∧ es = []) ∨ ∃ id, n ≤ id ∧ v = .osl id 0 es.length sz ∧ S.objs[id]? = some (es.flatMap PV.cells) ∧ es ≠ []
theorem OwnO.one {n sz : Nat} {S : St} {v : PV} {es : List PV} (h : OwnO n sz S v es) : v.one = true ∧ v.cells = [v] ∧ v.free = false := by
 rcases h with ⟨rfl, _⟩ | ⟨id, _, rfl, _⟩ <;> exact ⟨rfl, rfl, rfl⟩
theorem OwnO.len {n sz : Nat} {S : St} {v : PV} {es : List PV} (h : OwnO n sz S v es) : lenP false v = some (.int .i64 es.length) := by
 rcases h with ⟨rfl, rfl⟩ | ⟨id, _, rfl, _⟩ <;> rfl
theorem OwnO.mono {n sz : Nat} {S S' : St} {v : PV} {es : List PV} (h : OwnO n sz S v es) (hk : ∀ id x, n ≤ id → gidV v = some id → S.objs[id]? = some x → S'.objs[id]? = some x) : OwnO n sz S' v es := by
 rcases h with w | ⟨id, a, b, c, d⟩
 ·exact .inl w
 ·exact .inr ⟨id, a, b, hk id _ a (by rw [b]; rfl) c, d⟩
theorem OwnO.lt {n sz : Nat} {S : St} {v : PV} {es : List PV} (h : OwnO n sz S v es) {i : Nat} (hi : gidV v = some i) : n ≤ i ∧ i < S.objs.length := by
 rcases h with ⟨rfl, _⟩ | ⟨id, a, rfl, c, d⟩
 ·cases hi
 ·cases hi; exact ⟨a, (List.getElem?_eq_some_iff.1 c).1⟩

theorem own_app {S : St} {sz bytes : Nat} {es : List PV} (hsz : 0 < sz) (hn : ∀ e ∈ es, e.cells.length = sz ∧ e.cells.all PV.one = true) (hb : es.length * bytes ≤ 140737488355328) :
  ∃ v S2, gappTo sz bytes S .emp es = some (v, S2) ∧ OwnO S.objs.length sz S2 v es ∧ S2.tips = S.tips ∧ S.objs.length ≤ S2.objs.length ∧ ∀ (i : Nat) (x : List PV), S.objs[i]? = some x → S2.objs[i]? = some x := by
 obtain ⟨v, S2, p1, p2, p3, p4, p5, p6, _⟩ := (⟨.inl ⟨.inl rfl, rfl⟩, by simp⟩ : GAcc S sz S .emp []).app (Grows.refl S) hsz (new := es) (bytes := bytes) hn (by simpa using hb)
 refine ⟨v, S2, p1, ?_, p4, p5, fun i x hx => p6 i x hx (by simp [gidV])⟩
 rw [List.nil_append] at p2
 rcases p2.acc with ⟨w | w, e⟩ | ⟨id, a, b, c, d⟩
 ·exact .inl ⟨w, e⟩
 ·exfalso
  cases es with
  | nil => rw [w] at p1; cases p1
  | cons x l =>
   rw [w] at p1
   unfold gappTo at p1
   simp only [List.isEmpty_cons, Bool.false_eq_true, if_false] at p1
   split at p1
   ·cases p1
   ·cases p1
 ·exact .inr ⟨id, a, b, c, d⟩

theorem rowV_ok (l : List RowM) : ∀ e ∈ l.map rowV, e.cells.length = 3 ∧ e.cells.all PV.one = true := fun e he => by
 obtain ⟨x, _, rfl⟩ := List.mem_map.1 he; exact ⟨rfl, rfl⟩
theorem labV_ok (l : List Lab) : ∀ e ∈ l.map labV, e.cells.length = 2 ∧ e.cells.all PV.one = true := fun e he => by
 obtain ⟨x, _, rfl⟩ := List.mem_map.1 he; exact ⟨rfl, rfl⟩
theorem rowV_free (l : List RowM) : PV.freeL (l.map rowV) = true := freeL_map _ (fun _ => rfl) l
theorem rowV_frz (l : List RowM) : PV.frzL (l.map rowV) = l.map rowV := frzL_map' _ (fun _ => rfl) l

structure RecW (n : Nat) (S : St) (r : RecM) (vl vr vi : PV) : Prop where
 hl : OwnO n 2 S vl (r.labs.map labV)
 hr : OwnO n 3 S vr (r.rows.map rowV)
 ne : ∀ i, gidV vl = some i → gidV vr ≠ some i
 hi : IsSl 1 vi (nV r.ids)
 fi : vi.free = true
 zi : IsSl 1 vi.frz (nV r.ids)

theorem own_val {S : St} {r : RecM} {cs : List PV} (hc : RecC r cs) (h1 : r.labs.length ≤ 1048576) (h2 : r.rows.length ≤ 1048576) (h3 : r.ids.length ≤ 1048576) :
  ∃ vl vr vi S', cval T 69 [.agg cs] S = some (.agg [.int .i64 r.kind, vl, vr, vi, .int .i64 r.low, .int .i64 r.high], S') ∧ RecW S.objs.length S' r vl vr vi ∧
   (∀ (i : Nat) (x : List PV), S.objs[i]? = some x → S'.objs[i]? = some x) ∧ S.objs.length ≤ S'.objs.length := by
 obtain ⟨⟨l0, r0, i0, rfl, i1, i2, i3⟩, _⟩ := hc
 have o1 := isl_one i1
 have o2 := isl_one i2
 have o3 := isl_one i3
 obtain ⟨n, hn⟩ : ∃ n, n = S.objs.length := ⟨_, rfl⟩
 obtain ⟨S1, hS1⟩ : ∃ S1 : St, S1 = ⟨S.objs ++ [[.int .i64 r.kind, l0, r0, i0, .int .i64 r.low, .int .i64 r.high], [.int .i64 0, .nils, .nils, .nils, .int .i64 0, .int .i64 0]], S.tips⟩ := ⟨_, rfl⟩
 have hl1 : S1.objs.length = n + 2 := by rw [hS1, hn]; simp
 have b1 : S1.objs[n]? = some [.int .i64 r.kind, l0, r0, i0, .int .i64 r.low, .int .i64 r.high] := by rw [hS1, hn]; simp
 have c1 : S1.objs[n + 1]? = some [.int .i64 0, .nils, .nils, .nils, .int .i64 0, .int .i64 0] := by rw [hS1, hn]; simp
 -- labels
 obtain ⟨vl, S2, g1, w1, t1, le1, k1⟩ := own_app (S := S1) (sz := 2) (bytes := 32) (es := r.labs.map labV) (by decide) (labV_ok _) (by simp; omega)
 have b2 := k1 _ _ b1
 have c2 := k1 _ _ c1
 obtain ⟨q1, q2, q3⟩ := w1.one
 obtain ⟨S3, hS3⟩ : ∃ S3 : St, S3 = ⟨S2.objs.set n [.int .i64 r.kind, vl, r0, i0, .int .i64 r.low, .int .i64 r.high], S2.tips⟩ := ⟨_, rfl⟩
 have b3 : S3.objs[n]? = some [.int .i64 r.kind, vl, r0, i0, .int .i64 r.low, .int .i64 r.high] := by rw [hS3]; exact get_set b2
 have k3 : ∀ (i : Nat) (x : List PV), i ≠ n → S2.objs[i]? = some x → S3.objs[i]? = some x := fun i x hi hx => by rw [hS3]; simp only; rw [List.getElem?_set_ne (Ne.symm hi)]; exact hx
 have hl3 : S3.objs.length = S2.objs.length := by rw [hS3]; simp
 -- rows
 obtain ⟨vr, S4, g4, w4, t4, le4, k4⟩ := own_app (S := S3) (sz := 3) (bytes := 24) (es := r.rows.map rowV) (by decide) (rowV_ok _) (by simp; omega)
 obtain ⟨q4, q5, q6⟩ := w4.one
 have b4 := k4 _ _ b3
 obtain ⟨S5, hS5⟩ : ∃ S5 : St, S5 = ⟨S4.objs.set n [.int .i64 r.kind, vl, vr, i0, .int .i64 r.low, .int .i64 r.high], S4.tips⟩ := ⟨_, rfl⟩
 have b5 : S5.objs[n]? = some [.int .i64 r.kind, vl, vr, i0, .int .i64 r.low, .int .i64 r.high] := by rw [hS5]; exact get_set b4
 have k5 : ∀ (i : Nat) (x : List PV), i ≠ n → S4.objs[i]? = some x → S5.objs[i]? = some x := fun i x hi hx => by rw [hS5]; simp only; rw [List.getElem?_set_ne (Ne.symm hi)]; exact hx
 have hl5 : S5.objs.length = S4.objs.length := by rw [hS5]; simp
 -- ids
 obtain ⟨vi, S6, e6, a6, ob6⟩ := (accg_new 1 [] (Grows.refl S5)).app (bytes := 8) (nV r.ids) (by rw [nV_len]; simp; omega)
 simp only [List.length_nil, List.nil_append] at e6 a6
 have hvi : vi.free = true ∧ vi.frz = slF vi (nV r.ids) := by
  rcases a6.acc with ⟨p, p2⟩ | ⟨id, _, p, _⟩
  ·rw [p]; exact ⟨rfl, rfl⟩
  ·rw [p]; exact ⟨by simp [PV.free, nV_free, PV.freeL], by simp [PV.frz, nV_frz, slF, PV.frzL]⟩
 have hvis := a6.isSl (nV_cells r.ids)
 have hvio := isl_one hvis
 have hvic := one_cells hvio
 have ob6' : S6.objs = S5.objs := ob6
 have b6 : S6.objs[n]? = some [.int .i64 r.kind, vl, vr, i0, .int .i64 r.low, .int .i64 r.high] := by rw [ob6']; exact b5
 obtain ⟨S7, hS7⟩ : ∃ S7 : St, S7 = ⟨S6.objs.set n [.int .i64 r.kind, vl, vr, vi, .int .i64 r.low, .int .i64 r.high], S6.tips⟩ := ⟨_, rfl⟩
 have b7 : S7.objs[n]? = some [.int .i64 r.kind, vl, vr, vi, .int .i64 r.low, .int .i64 r.high] := by rw [hS7]; exact get_set b6
 have k7 : ∀ (i : Nat) (x : List PV), i ≠ n → S6.objs[i]? = some x → S7.objs[i]? = some x := fun i x hi hx => by rw [hS7]; simp only; rw [List.getElem?_set_ne (Ne.symm hi)]; exact hx
 have c7 : S7.objs[n + 1]? = some [.int .i64 0, .nils, .nils, .nils, .int .i64 0, .int .i64 0] := k7 _ _ (by omega) (by rw [ob6']; exact k5 _ _ (by omega) (k4 _ _ (k3 _ _ (by omega) c2)))
 obtain ⟨S8, hS8⟩ : ∃ S8 : St, S8 = ⟨S7.objs.set (n + 1) [.int .i64 r.kind, vl, vr, vi, .int .i64 r.low, .int .i64 r.high], S7.tips⟩ := ⟨_, rfl⟩
 have b8 : S8.objs[n + 1]? = some [.int .i64 r.kind, vl, vr, vi, .int .i64 r.low, .int .i64 r.high] := by rw [hS8]; exact get_set c7
 have k8 : ∀ (i : Nat) (x : List PV), i ≠ n + 1 → S7.objs[i]? = some x → S8.objs[i]? = some x := fun i x hi hx => by rw [hS8]; simp only; rw [List.getElem?_set_ne (Ne.symm hi)]; exact hx
 have kk : ∀ (i : Nat) (x : List PV), i ≠ n → i ≠ n + 1 → S2.objs[i]? = some x → S8.objs[i]? = some x := fun i x h1 h2 hx => k8 i x h2 (k7 i x h1 (by rw [ob6']; exact k5 i x h1 (k4 i x (k3 i x h1 hx))))
 have kk4 : ∀ (i : Nat) (x : List PV), i ≠ n → i ≠ n + 1 → S4.objs[i]? = some x → S8.objs[i]? = some x := fun i x h1 h2 hx => k8 i x h2 (k7 i x h1 (by rw [ob6']; exact k5 i x h1 hx))
 have hfin : RecW S.objs.length S8 r vl vr vi := by
  refine ⟨?_, ?_, fun i hi hi2 => ?_, hvis, hvi.1, ?_⟩
  ·rcases w1 with w | ⟨id, a, b, c, d⟩
   ·exact .inl w
   ·exact .inr ⟨id, by omega, b, kk _ _ (by omega) (by omega) c, d⟩
  ·rcases w4 with w | ⟨id, a, b, c, d⟩
   ·exact .inl w
   ·exact .inr ⟨id, by omega, b, kk4 _ _ (by omega) (by omega) c, d⟩
  ·have := w1.lt hi
   have := w4.lt hi2
   omega
  ·rw [hvi.2]
   exact slF_isSl a6 (nV_cells _)
 refine ⟨vl, vr, vi, S8, cval_ok' fn_69 rfl ?_, hfin, fun i x hx => ?_, ?_⟩
 ·have hap1 : ∀ S, appendedS S 2 l0 = some (r.labs.map labV) := fun S => i1.appdS
  have hap2 : ∀ S, appendedS S 3 r0 = some (r.rows.map rowV) := fun S => i2.appdS
  have hap3 : ∀ S, appendedS S 1 i0 = some (nV r.ids) := fun S => i3.appdS
  have ld1 : loadP S1 false 1 (.ptr n 1) = some l0 := by rw [loadP_ptr b1]; exact part1
  have ld3 : loadP S3 false 1 (.ptr n 2) = some r0 := by rw [loadP_ptr b3]; exact part1
  have ld5 : ∀ t, loadP ⟨S5.objs, t⟩ false 1 (.ptr n 3) = some i0 := fun t => by rw [loadP_ptr (S := ⟨S5.objs, t⟩) b5]; exact part1
  have ld7 : loadP S7 true 6 (.ptr n 0) = some (.agg [.int .i64 r.kind, vl, vr, vi, .int .i64 r.low, .int .i64 r.high]) := by rw [loadP_ptr b7]; simp [partOf]
  have ld8 : loadP S8 true 6 (.ptr (n + 1) 0) = some (.agg [.int .i64 r.kind, vl, vr, vi, .int .i64 r.low, .int .i64 r.high]) := by rw [loadP_ptr b8]; simp [partOf]
  obtain ⟨A, hA⟩ : ∃ A, A = r.labs.map labV := ⟨_, rfl⟩
  obtain ⟨B, hB⟩ : ∃ B, B = r.rows.map rowV := ⟨_, rfl⟩
  rw [← hA] at hap1 g1
  rw [← hB] at hap2 g4
  simp -implicitDefEqProofs [-z81_r1_go, z81, pstep, o1, o2, o3]
  rw [← hS1, ← hn]
  simp -implicitDefEqProofs [-z81_r2_go, pstep, ld1, hap1, g1, b2, putCells, q1, q2]
  rw [← hS3]
  simp -implicitDefEqProofs [-z81_r3_go, pstep, ld3, hap2, g4, b4, putCells, q4, q5]
  rw [← hS5]
  simp -implicitDefEqProofs [-z81_r4_go, pstep, elems, setParts, newArr, appP, ld5, hap3, e6, b6, putCells, hvio, hvic]
  rw [← hS7]
  simp -implicitDefEqProofs [pstep, ld7, c7, putCells, q1, q4, hvio]
  rw [← hS8]
  exact ends_c (by simpa using ld8) rfl
 ·have hil := (List.getElem?_eq_some_iff.1 hx).1
  rw [← hn] at hil
  refine kk i x (by omega) (by omega) (k1 i x ?_)
  rw [hS1]; simp only; rw [List.getElem?_append_left (by rw [← hn]; exact hil)]; exact hx
 ·have : S8.objs.length = S6.objs.length := by rw [hS8, hS7]; simp
  rw [this, ob6']
  omega
end Ps
