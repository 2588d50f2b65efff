/- The head: remove, whole. -/
import Derived.Test.YtndfknoclbkkhaaHI
namespace Ps
set_option linter.unusedSimpArgs false
set_option linter.unusedVariables false
open Go
theorem fn_182 : T.fn 182 = some (.code z35) := rfl

abbrev Ab := List (List Lab × List (Int × Int))
def abs (l : List Sr) : Ab := l.map fun r => (r.lb, r.sm)
theorem abs_len (l : List Sr) : (abs l).length = l.length := by simp [abs]
theorem abs_app (a b : List Sr) : abs (a ++ b) = abs a ++ abs b := by simp [abs]
theorem abs_cons (r : Sr) (b : List Sr) : abs (r :: b) = (r.lb, r.sm) :: abs b := by simp [abs]
def rem1 (low high : Int) (i : Nat) (A : Ab) : Ab := A.modify i fun p => (p.1, kept low high p.2)
def remA (low high : Int) : List Int → Ab → Ab
 | [], A => A
 | i :: l, A => remA low high l (rem1 low high i.toNat A)
theorem remA_snoc (low high : Int) : ∀ (l : List Int) (i : Int) (A : Ab), remA low high (l ++ [i]) A = rem1 low high i.toNat (remA low high l A)
 | [], i, A => rfl
 | j :: l, i, A => by simp only [List.cons_append, remA]; exact remA_snoc low high l i _
theorem remA_len (low high : Int) : ∀ (l : List Int) (A : Ab), (remA low high l A).length = A.length
 | [], A => rfl
 | j :: l, A => by simp only [remA]; rw [remA_len]; simp [rem1]
theorem modify_mid {α : Type} (f : α → α) : ∀ (a : List α) (x : α) (b : List α), (a ++ x :: b).modify a.length f = a ++ f x :: b
 | [], x, b => by simp
 | y :: a, x, b => by simp [modify_mid f a x b]

theorem kept_rise {low high : Int} {l : List (Int × Int)} (h : Rises l ∧ ∀ q ∈ l, 0 ≤ q.1 ∧ q.1 ≤ 1099511627776) : Rises (kept low high l) ∧ ∀ q ∈ kept low high l, 0 ≤ q.1 ∧ q.1 ≤ 1099511627776 :=
 ⟨h.1.filter _, fun q hq => h.2 q (List.mem_filter.1 hq).1⟩
theorem kept_len (low high : Int) (l : List (Int × Int)) : (kept low high l).length ≤ l.length := List.length_filter_le _ _

theorem serC_mid (a : List Sr) (r : Sr) (b : List Sr) : serC (a ++ r :: b) = serC a ++ (r.lv :: r.sv :: serC b) := by simp [serC]
theorem serC_len (a : List Sr) : (serC a).length = 2 * a.length := by
 induction a with
 | nil => rfl
 | cons r a ih => simp only [serC, List.flatMap_cons, List.length_append, List.length_cons, List.length_nil] at ih ⊢; omega
theorem serC_dropA (a : List Sr) (r : Sr) (b : List Sr) : (serC (a ++ r :: b)).drop (a.length * 2) = r.lv :: r.sv :: serC b := by
 rw [serC_mid, List.drop_append_of_le_length (by rw [serC_len]; omega), List.drop_of_length_le (by rw [serC_len]; omega), List.nil_append]
theorem serC_dropB (a : List Sr) (r : Sr) (b : List Sr) : (serC (a ++ r :: b)).drop (a.length * 2 + 1) = r.sv :: serC b := by
 rw [← List.drop_drop, serC_dropA]; rfl
theorem serC_put (a : List Sr) (r : Sr) (b : List Sr) (sv : PV) (sm : List (Int × Int)) : putCells (serC (a ++ r :: b)) (a.length * 2 + 1) [sv] = serC (a ++ ⟨r.lv, sv, sm, r.lb⟩ :: b) := by
 have h1 : (serC (a ++ r :: b)).take (a.length * 2 + 1) = serC a ++ [r.lv] := by
  rw [serC_mid, List.take_append, List.take_of_length_le (by rw [serC_len]; omega), serC_len]
  rw [show a.length * 2 + 1 - 2 * a.length = 1 by omega]; rfl
 have h2 : (serC (a ++ r :: b)).drop (a.length * 2 + 1 + 1) = serC b := by
  rw [← List.drop_drop, serC_dropB]; rfl
 simp only [putCells, List.length_singleton]
 rw [h1, h2, serC_mid]
 simp

theorem Reads1.getI {v : PV} {l : List Int} (h : Reads1 1 v (nV l)) {i : Nat} (hi : i < l.length) {k : IntKind} : iaddrP 1 v (.int k (i : Int)) = some (.ref [.int .i64 l[i]]) := by
 have := h.get i (by rw [nV_len]; exact hi) k
 rw [this]; simp [nV, PV.cells]

theorem smlen {S : St} {sv : PV} {l : List (Int × Int)} (h : SmAt S sv l) : lenP false sv = some (.int .i64 l.length) := by
 rcases h with ⟨e | e, e2⟩ | ⟨id, t, e, _⟩
 ·rw [e, e2]; rfl
 ·rw [e, e2]; rfl
 ·rw [e]; rfl

theorem rem_round {S : St} {o si ro : Nat} {H : Hd} {a b : List Sr} {r : Sr} {vi : PV} {low high : Int} {c0 c1 c2 : PV} (h : HOk S o H) (he : H.ser = a ++ r :: b) (hsi : gidV H.hv = some si)
  (hro : S.objs[ro]? = some [c0, c1, c2, vi, .int .i64 low, .int .i64 high]) (hn : ro ∉ ownH o H) {l : List Int} (hv : Reads1 1 vi (nV l)) {j : Nat} (hj : j < l.length) (hlj : l[j] = (a.length : Int)) (hjl : l.length ≤ 1048576)
  {K : List Kt} {Q : Fr → St → Prop} {fr : Fr} (f0 : fr 0 = .ptr o 0) (f3 : fr 3 = .ptr ro 0) (f24 : fr 24 = vi) (f25 : fr 25 = .int .i64 l.length) (f26 : fr 26 = .int .i64 (j : Int))
  (k : ∀ fr' S' H', HOk S' o H' → Stp o S H S' H' → abs H'.ser = rem1 low high a.length (abs H.ser) → H'.hv = H.hv → fr' 0 = .ptr o 0 → fr' 3 = .ptr ro 0 → fr' 24 = vi → fr' 25 = .int .i64 l.length → fr' 26 = .int .i64 ((j : Int) + 1) →
   Ok (gval T (.lp z35_l0 :: .blk 0 :: K) fr' S') Q) :
  Ok (gval T (.lp z35_l0 :: .blk 0 :: K) fr S) Q := by
 have hr0 := h.all r (by rw [he]; simp)
 have hlt : (j : Int) < (l.length : Int) := by omega
 have hg := hv.getI hj (k := .i64)
 rw [hlj] at hg
 have hw := wrap_up hj (by unfold maxLen; omega : l.length ≤ maxLen)
 have hlen : H.ser.length = a.length + (b.length + 1) := by rw [he]; simp
 have hle := h.szs
 have hobs : H.hv = .osl si 0 H.ser.length 2 ∧ S.objs[si]? = some (serC H.ser) := by
  rcases h.ser with ⟨e, _⟩ | ⟨si', e, hs, _⟩
  ·rw [e] at hsi; cases hsi
  ·rw [e] at hsi; cases hsi
   exact ⟨e, hs⟩
 obtain ⟨hhv, hs⟩ := hobs
 have hob := h.obj
 rw [hhv] at hob
 have hal : a.length < H.ser.length := by omega
 have hall : ((a.length : Int) < (H.ser.length : Int)) := by omega
 rw [he] at hs
 have hsml : r.sm.length ≤ 1048576 := by
  have := h.tot
  rw [he, total_app, total_cons] at this; omega
 have hlen1 := smlen hr0.at_
 have hne : gidV r.sv ≠ some ro := fun e => hn (by
  simp only [ownH, List.mem_cons, List.mem_append]
  exact .inr (.inr (.inr (List.mem_flatMap.2 ⟨r, by rw [he]; simp, mem_gl.2 e⟩))))
 have hro' : ro ≠ o ∧ ro ≠ si := ⟨fun e => hn (by rw [e]; simp [ownH]), fun e => hn (by
  simp only [ownH, List.mem_cons, List.mem_append]
  exact .inr (.inr (.inl (by rw [e]; exact mem_gl.2 hsi))))⟩
 have hcn := h.cnt
 have htot := h.tot
 -- the object with the loop's series
 have hlo : loadP S false 1 (.ptr o 0) = some (.osl si 0 H.ser.length 2) := by rw [loadP_ptr hob]; rfl
 have hls : loadP S false 1 (.ptr si (a.length * 2 + 1)) = some r.sv := by rw [loadP_ptr hs, serC_dropB]; exact part1
 obtain ⟨sv, S1, hd, hm1, hsv, hk1, ht1, hl1, hlc⟩ := delete_val hr0.at_ hsml hne hro
 have hosi : o ≠ si ∧ gidV r.sv ≠ some o ∧ gidV r.sv ≠ some si := by
  have hd := h.dis
  have hsm : si ∈ gl H.hv := mem_gl.2 hsi
  simp only [ownH, he, gls_app, gls_cons, List.nodup_cons, List.mem_cons, List.mem_append, not_or] at hd
  obtain ⟨⟨_, d1, _, d2, _⟩, _, d3⟩ := hd
  rw [List.nodup_append] at d3
  refine ⟨fun e => d1 (by rw [e]; exact hsm), fun e => d2 (mem_gl.2 e), fun e => d3.2.2 si hsm si (by simp [mem_gl.2 e]) rfl⟩
 have hob1 := hk1 o _ hosi.2.1 hob
 have hs1 := hk1 si _ hosi.2.2 hs
 have hro1 := hk1 ro _ hne hro
 have hlen2 := smlen hm1
 obtain ⟨n1, hn1⟩ : ∃ n1, n1 = (kept low high r.sm).length := ⟨_, rfl⟩
 have hn1l : n1 ≤ r.sm.length := by rw [hn1]; exact kept_len _ _ _
 rw [← hn1] at hlen2
 have hw1 : IntKind.i64.wrap ((r.sm.length : Int) - (n1 : Int)) = (r.sm.length : Int) - (n1 : Int) := wrap_i64 (by omega) (by omega)
 have hcl : (r.sm.length : Nat) ≤ total H.ser := by rw [he, total_app, total_cons]; omega
 have hw2 : IntKind.i64.wrap (H.count - ((r.sm.length : Int) - (n1 : Int))) = H.count - ((r.sm.length : Int) - (n1 : Int)) := wrap_i64 (by omega) (by omega)
 have hsv1 : sv.one = true ∧ sv.cells = [sv] := by
  rcases hm1 with ⟨e | e, _⟩ | ⟨id, t, e, _⟩ <;> subst e <;> exact ⟨rfl, rfl⟩
 -- the two stores
 obtain ⟨S2, hS2⟩ : ∃ S2 : St, S2 = ⟨S1.objs.set si (serC (a ++ ⟨r.lv, sv, kept low high r.sm, r.lb⟩ :: b)), S1.tips⟩ := ⟨_, rfl⟩
 have hob2 : S2.objs[o]? = some [.osl si 0 H.ser.length 2, .map H.mi, .int .i64 H.count] := by rw [hS2]; simp only; rw [List.getElem?_set_ne (Ne.symm hosi.1)]; exact hob1
 have hs2 : S2.objs[si]? = some (serC (a ++ ⟨r.lv, sv, kept low high r.sm, r.lb⟩ :: b)) := by rw [hS2]; exact get_set hs1
 have hls2 : loadP S2 false 1 (.ptr si (a.length * 2 + 1)) = some sv := by rw [loadP_ptr hs2, serC_dropB]; exact part1
 have hsl : (serC (a ++ r :: b)).length = 2 * H.ser.length := by rw [serC_len, he]
 have hle1 : a.length * 2 + 1 + 1 ≤ (serC (a ++ r :: b)).length := by rw [hsl]; omega
 obtain ⟨c', hc'⟩ : ∃ c' : Int, c' = H.count - ((r.sm.length : Int) - (n1 : Int)) := ⟨_, rfl⟩
 obtain ⟨S3, hS3⟩ : ∃ S3 : St, S3 = ⟨S2.objs.set o [.osl si 0 H.ser.length 2, .map H.mi, .int .i64 c'], S2.tips⟩ := ⟨_, rfl⟩
 have hfin : ∃ H', HOk S3 o H' ∧ Stp o S H S3 H' ∧ abs H'.ser = rem1 low high a.length (abs H.ser) ∧ H'.hv = H.hv := by
  have hot : ∀ i, i ≠ o → i ≠ si → S3.objs[i]? = S1.objs[i]? := fun i q1 q2 => by
   rw [hS3, hS2]; simp only
   rw [List.getElem?_set_ne (Ne.symm q1), List.getElem?_set_ne (Ne.symm q2)]
  have hsid : ∀ id, gidV sv = some id → gidV r.sv = some id := fun id hid => by
   rcases hsv with e | ⟨id', e1, e2⟩
   ·rw [← e]; exact hid
   ·rw [e2] at hid; cases hid; exact e1
  have hsm2 : SmAt S3 sv (kept low high r.sm) := by
   rcases hm1 with q | ⟨id, t, e, q⟩
   ·exact .inl q
   ·refine .inr ⟨id, t, e, ?_⟩
    have := hsid id (by rw [e]; rfl)
    rw [hot id (fun w => hosi.2.1 (w ▸ this)) (fun w => hosi.2.2 (w ▸ this))]; exact q
  have hu := h.upd (S' := S3) he hsi (sv := sv) (sm := kept low high r.sm) (c := c') (by rw [hS3, hhv]; exact get_set hob2) (by
    rw [hS3]; simp only; rw [List.getElem?_set_ne hosi.1]; exact hs2)
   (fun i x q1 q2 q3 hx => by rw [hot i q1 q2]; exact hk1 i x q3 hx) (by rw [hS3, hS2]; simpa using hl1) hsm2 (fun id hid => by
    have w := hsid id hid
    obtain ⟨c, hc, hcn⟩ := hr0.pos id w
    obtain ⟨d, hd1, hd2⟩ := hlc id c w hc
    refine ⟨d, ?_, fun e => hcn ?_⟩
    ·rw [hot id (fun q => hosi.2.1 (q ▸ w)) (fun q => hosi.2.2 (q ▸ w))]; exact hd1
    ·rw [e] at hd2; exact List.length_eq_zero_iff.1 hd2.symm)
   (fun id hid => .inl (hsid id hid)) (kept_rise hr0.rise) (by
    have e := hcn
    rw [he, total_app, total_cons] at e
    rw [hc', total_app, total_cons]
    simp only
    omega) (by
    have e := htot
    rw [he, total_app, total_cons] at e
    rw [total_app, total_cons]; simp only; omega)
  refine ⟨_, hu.1, hu.2, ?_, rfl⟩
  simp only
  rw [he, abs_app, abs_cons, abs_app, abs_cons, rem1]
  have : (abs a).length = a.length := abs_len a
  rw [← this, modify_mid]
 obtain ⟨H', x1, x2, x3, x4⟩ := hfin
 have hput := serC_put a r b sv (kept low high r.sm)
 rw [gval_lp]
 simp -implicitDefEqProofs [-z35_r9_go, f0, f3, f24, f25, f26, hlt, hj, hg, p1, hlo, hls, hall, hal, hlen1, hd, pstep, hs1, hle1, hsv1]
 rw [hput, ← hS2]
 have hlo2 : loadP S2 false 1 (.ptr o 0) = some (.osl si 0 H.ser.length 2) := by rw [loadP_ptr hob2]; rfl
 have hlc2 : loadP S2 false 1 (.ptr o 2) = some (.int .i64 H.count) := by rw [loadP_ptr hob2]; rfl
 simp -implicitDefEqProofs [f0, f3, f24, f25, f26, hlc2, hls2, hlen2, hw1, hw2, pstep, hob2, putCells]
 rw [← hc', ← hS3]
 exact k _ S3 H' x1 x2 x3 x4 (by simp [f0]) (by simp [f3]) (by simp [f24]) (by simp [f25]) (by simp [hw])
end Ps
namespace Ps
set_option linter.unusedSimpArgs false
set_option linter.unusedVariables false
open Go
theorem postR_asc' : ∀ (l : List Int) (p : Option Int), postR p l = 0 → (∀ x ∈ l, 0 ≤ x ∧ (∀ q, p = some q → q < x)) ∧ l.Pairwise (· < ·)
 | [], p, _ => ⟨by simp, List.Pairwise.nil⟩
 | n :: l, p, h => by
  rw [postR_cons] at h
  by_cases hb : n < 0 ∨ 1099511627776 < n
  ·rw [if_pos hb] at h; omega
  ·rw [if_neg hb] at h
   have hp : ∀ q, p = some q → q < n := by
    intro q hq
    rw [hq] at h
    simp only at h
    by_cases hc : n ≤ q
    ·simp [hc] at h
    ·omega
   have hl : postR (some n) l = 0 := by
    cases p with
    | none => simpa using h
    | some q =>
     have := hp q rfl
     have hc : ¬ n ≤ q := by omega
     simpa [hc] using h
   obtain ⟨h1, h2⟩ := postR_asc' l (some n) hl
   refine ⟨fun x hx => ?_, List.pairwise_cons.2 ⟨fun x hx => (h1 x hx).2 n rfl, h2⟩⟩
   rcases List.mem_cons.1 hx with rfl | hx
   ·exact ⟨by omega, hp⟩
   ·obtain ⟨a, b⟩ := h1 x hx
    refine ⟨a, fun q hq => ?_⟩
    have := hp q hq
    have := b n rfl
    omega
theorem postN_facts {l : List Int} (h : postN l = 0) : l.length ≤ 1024 ∧ (∀ x ∈ l, 0 ≤ x) ∧ l.Pairwise (· < ·) := by
 unfold postN at h
 split at h
 ·omega
 ·obtain ⟨a, b⟩ := postR_asc' l none h
  exact ⟨by omega, fun x hx => (a x hx).1, b⟩
theorem asc_last {l : List Int} (h : l.Pairwise (· < ·)) (hn : l ≠ []) : ∀ x ∈ l, x ≤ l.getLast hn := by
 intro x hx
 obtain ⟨a, ha⟩ : ∃ a, l = a ++ [l.getLast hn] := ⟨l.dropLast, (List.dropLast_concat_getLast hn).symm⟩
 rw [ha] at hx h
 rcases List.mem_append.1 hx with q | q
 ·have := (List.pairwise_append.1 h).2.2 x q (l.getLast hn) (by simp)
  omega
 ·simp at q; omega

def remE (ids : List Int) (n : Nat) : Nat := match ids.getLast? with | some x => if (n : Int) ≤ x then 9 else 0 | none => 0
def doRem (r : RecM) (A : Ab) : Ab × Nat := if remE r.ids A.length = 0 then (remA r.low r.high r.ids A, 0) else (A, 9)

theorem delN_facts {r : RecM} (h : delN r = 0) : postN r.ids = 0 ∧ r.ids ≠ [] ∧ 0 ≤ r.low ∧ r.high ≤ 1099511627776 ∧ r.low ≤ r.high := by
 unfold delN at h
 split at h
 ·omega
 split at h
 ·omega
 split at h
 ·omega
 split at h
 ·omega
 rename_i h1 h2 h3 h4
 exact ⟨by omega, fun e => h2 (by rw [e]; rfl), by omega, by omega, by omega⟩

theorem remove_val {S : St} {o : Nat} {H : Hd} (h : HOk S o H) {r : RecM} {vl vr vi : PV} (o1 : vl.one = true) (o2 : vr.one = true) (i3 : IsSl 1 vi (nV r.ids)) (hd : delN r = 0) :
  ∃ S' H', cval T 182 [.ptr o 0, .agg [.int .i64 r.kind, vl, vr, vi, .int .i64 r.low, .int .i64 r.high]] S = some (.int .i64 ((doRem r (abs H.ser)).2 : Nat), S') ∧ HOk S' o H' ∧ Stp o S H S' H' ∧ abs H'.ser = (doRem r (abs H.ser)).1 := by
 obtain ⟨hp, hne, hlo, hhi, hlh⟩ := delN_facts hd
 obtain ⟨hil, hpos, hasc⟩ := postN_facts hp
 obtain ⟨l, hl⟩ : ∃ l, l = r.ids := ⟨_, rfl⟩
 rw [← hl] at hne hil hpos hasc i3
 have hv := i3.reads
 have hvl := i3.len
 rw [nV_len] at hvl
 obtain ⟨S1, hS1⟩ : ∃ S1 : St, S1 = ⟨S.objs ++ [[.int .i64 r.kind, vl, vr, vi, .int .i64 r.low, .int .i64 r.high]], S.tips⟩ := ⟨_, rfl⟩
 have hg1 : ∀ (i : Nat) (x : List PV), S.objs[i]? = some x → S1.objs[i]? = some x := fun i x hx => by
  rw [hS1]; simp only; rw [List.getElem?_append_left (List.getElem?_eq_some_iff.1 hx).1]; exact hx
 have hl1 : S.objs.length ≤ S1.objs.length := by rw [hS1]; simp
 have h1 := h.grow hg1
 have hstp : Stp o S H S1 H := Stp.grow hg1 hl1
 have hro : S1.objs[S.objs.length]? = some [.int .i64 r.kind, vl, vr, vi, .int .i64 r.low, .int .i64 r.high] := by rw [hS1]; simp
 have hrn : S.objs.length ∉ ownH o H := fun hi => by have := h.lt _ hi; omega
 have hob := h1.obj
 have hvone := isl_one i3
 have hall : ([.int .i64 r.kind, vl, vr, vi, .int .i64 r.low, .int .i64 r.high] : List PV).all PV.one = true := by simp [o1, o2, isl_one i3]
 have hlen : lenP false H.hv = some (.int .i64 H.ser.length) := by
  rcases h.ser with ⟨e, e2⟩ | ⟨si, e, _⟩
  ·rw [e, e2]; rfl
  ·rw [e]; rfl
 have hpos1 : 0 < l.length := by cases l <;> simp at hne ⊢
 have hwl : IntKind.i64.wrap ((l.length : Int) - 1) = ((l.length - 1 : Nat) : Int) := by
  rw [wrap_i64 (by omega) (by omega)]; omega
 have hgl := hv.getI (i := l.length - 1) (by omega) (k := .i64)
 have hlst : l[l.length - 1]'(by omega) = l.getLast hne := by rw [List.getLast_eq_getElem]
 rw [hlst] at hgl
 obtain ⟨z, hz⟩ : ∃ z, z = l.getLast hne := ⟨_, rfl⟩
 rw [← hz] at hgl
 have hz? : l.getLast? = some z := by rw [List.getLast?_eq_some_getLast hne, hz]
 have lo3 : loadP S1 false 1 (.ptr S.objs.length 3) = some vi := by rw [loadP_ptr hro]; exact part1
 have lo0 : loadP S1 false 1 (.ptr o 0) = some H.hv := by rw [loadP_ptr hob]; exact part1
 have hAl : (abs H.ser).length = H.ser.length := abs_len _
 by_cases hcz : (H.ser.length : Int) ≤ z
 ·have e1 : doRem r (abs H.ser) = (abs H.ser, 9) := by
   have : remE r.ids (abs H.ser).length = 9 := by rw [hAl, remE, ← hl, hz?]; simp [hcz]
   simp [doRem, this]
  rw [e1]
  refine ⟨S1, H, cval_ok' fn_182 rfl ?_, h1, hstp, rfl⟩
  simp -implicitDefEqProofs [-z35_r1_go, z35, pstep, hall]
  rw [← hS1]
  simp -implicitDefEqProofs [lo3, lo0, hvl, hwl, hgl, p1, hlen, hcz]
  rfl
 ·have e1 : doRem r (abs H.ser) = (remA r.low r.high r.ids (abs H.ser), 0) := by
   have : remE r.ids (abs H.ser).length = 0 := by rw [hAl, remE, ← hl, hz?]; simp [hcz]
   simp [doRem, this]
  rw [e1, ← hl]
  have hidl : ∀ x ∈ l, x < (H.ser.length : Int) := fun x hx => by
   have := asc_last hasc hne x hx; omega
  have hhv : ∃ si, gidV H.hv = some si := by
   rcases h.ser with ⟨_, e⟩ | ⟨si, e, _⟩
   ·rw [e] at hcz; have := hpos z (by rw [hz]; exact List.getLast_mem hne); simp at hcz; omega
   ·exact ⟨si, by rw [e]; rfl⟩
  obtain ⟨si, hsi⟩ := hhv
  obtain ⟨v, S2, hcv, h2⟩ := cval_ex (T := T) fn_182 (args := [.ptr o 0, .agg [.int .i64 r.kind, vl, vr, vi, .int .i64 r.low, .int .i64 r.high]]) (S := S) rfl (R := fun v S2 => v = .int .i64 0 ∧ ∃ H', HOk S2 o H' ∧ Stp o S H S2 H' ∧ abs H'.ser = remA r.low r.high l (abs H.ser)) (by
   simp -implicitDefEqProofs [-z35_r1_go, z35, pstep, hall]
   rw [← hS1]
   simp -implicitDefEqProofs [lo3, lo0, hvl, hwl, hgl, p1, hlen, hcz]
   refine lp_up l.length (fun j fr S' => fr 0 = .ptr o 0 ∧ fr 3 = .ptr S.objs.length 0 ∧ fr 24 = vi ∧ fr 25 = .int .i64 l.length ∧ fr 26 = .int .i64 (j : Int) ∧
    ∃ H', HOk S' o H' ∧ Stp o S1 H S' H' ∧ abs H'.ser = remA r.low r.high (l.take j) (abs H.ser) ∧ H'.hv = H.hv) ?_ ?_ 0 (Nat.zero_le _) _ _ ⟨by simp, by simp, by simp, by simp, by simp, H, h1, Stp.refl, rfl, rfl⟩
   ·rintro j fr S' hj ⟨f0, f3, f24, f25, f26, H', x1, x2, x3, x4⟩ k
    have hx0 := hpos l[j] (List.getElem_mem hj)
    have hx1 := hidl l[j] (List.getElem_mem hj)
    have hlen' : H'.ser.length = H.ser.length := by
     have := congrArg List.length x3
     rw [abs_len, remA_len, abs_len] at this; exact this
    obtain ⟨q, hq⟩ : ∃ q : Nat, l[j] = (q : Int) := ⟨l[j].toNat, by omega⟩
    have hql : q < H'.ser.length := by omega
    have hsplit : H'.ser = H'.ser.take q ++ H'.ser[q] :: H'.ser.drop (q + 1) := by
     rw [← List.drop_eq_getElem_cons hql, List.take_append_drop]
    have hta : (H'.ser.take q).length = q := by rw [List.length_take]; omega
    have hro' : S'.objs[S.objs.length]? = some [.int .i64 r.kind, vl, vr, vi, .int .i64 r.low, .int .i64 r.high] := x2.keep _ _ hrn hro
    have hrn' : S.objs.length ∉ ownH o H' := fun hi => by
     rcases x2.own _ hi with w | w
     ·exact hrn w
     ·rw [hS1] at w; simp at w; omega
    refine rem_round x1 hsplit (by rw [x4]; exact hsi) hro' hrn' hv hj (by rw [hta]; exact hq) (by omega) f0 f3 f24 f25 f26 (fun fr' S'' H'' y1 y2 y3 y4 g0 g3 g24 g25 g26 => ?_)
    refine k fr' S'' ⟨g0, g3, g24, g25, by simpa using g26, H'', y1, x2.trans y2, ?_, by rw [y4, x4]⟩
    rw [y3, x3, hta, List.take_add_one, List.getElem?_eq_getElem hj]
    simp only [Option.toList_some]
    rw [remA_snoc, hq]; rfl
   ·rintro fr S' ⟨f0, f3, f24, f25, f26, H', x1, x2, x3, x4⟩
    rw [List.take_length] at x3
    rw [gval_lp]
    simp -implicitDefEqProofs [f25, f26]
    exact ⟨rfl, H', x1, hstp.trans x2, x3⟩)
  obtain ⟨rfl, H', y1, y2, y3⟩ := h2
  exact ⟨S2, H', hcv, y1, y2, y3⟩
end Ps
