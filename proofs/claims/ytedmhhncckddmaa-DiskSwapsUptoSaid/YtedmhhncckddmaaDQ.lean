/- The laws' own helpers: same, begins; slices that gather; what is read. -/
import Derived.Test.YtedmhhncckddmaaDP
namespace Ps
set_option linter.unusedSimpArgs false
set_option linter.unusedVariables false
open Go

theorem IsSl.hi {sz : Nat} {v : PV} {es : List PV} (h : IsSl sz v es) {hi : Nat} {j : IntKind} (hh : hi ≤ es.length) : ∃ v', slcP sz none (some (.int j (hi : Int))) v = some v' ∧ IsSl sz v' (es.take hi) := by
  rcases h with ⟨rfl, rfl⟩ | ⟨tip, sp, rfl, h⟩
  · refine ⟨.nils, ?_, .inl ⟨rfl, by simp⟩⟩
    have : hi = 0 := by simpa using hh
    subst this
    rw [slcP_nils, bounds_hi (by omega)]
  · refine ⟨.sl (if hi = es.length then tip else none) (((es ++ sp).take hi).drop 0) ((es ++ sp).drop hi), ?_, .inr ⟨if hi = es.length then tip else none, (es ++ sp).drop hi, ?_, ?_⟩⟩
    · rw [slcP_sl, szOk_of h, bounds_hi (by omega)]; rfl
    · rw [List.take_append_of_le_length hh, List.drop_zero]
    · intro e he
      refine h e ?_
      rcases List.mem_append.1 he with he | he
      · exact List.mem_append_left _ (List.mem_of_mem_take he)
      · exact List.mem_of_mem_drop he

theorem bytesOf_of (s : List UInt8) : bytesOf (ofBytes s) = some s := by
  induction s with
  | nil => rfl
  | cons b s ih =>
    show bytesOf (.int .u8 b.toNat :: ofBytes s) = _
    rw [bytesOf, ih]
    simp
theorem toStr_isl {v : PV} {s : List UInt8} (h : IsSl 1 v (ofBytes s)) : toStrP v = some (.str s) := by
  rcases h with ⟨rfl, hn⟩ | ⟨tip, sp, rfl, _⟩
  · have : s = [] := by simpa [ofBytes] using hn
    subst this; rfl
  · show (match bytesOf (ofBytes s) with | some s => some (PV.str s) | none => none) = _
    rw [bytesOf_of]
theorem ofBytes_one : ∀ {s : List UInt8} {e : PV}, e ∈ ofBytes s → e.cells.length = 1 := by
  intro s e he
  simp only [ofBytes, List.mem_map] at he
  obtain ⟨_, _, rfl⟩ := he; rfl
theorem cloneV_isl {S : St} {v : PV} {b : List UInt8} (h : SlT S 1 v (ofBytes b)) : IsSl 1 (cloneV v b) (ofBytes b) := by
  rcases h with ⟨rfl, hn⟩ | ⟨k, e, rfl, _⟩
  · exact .inl ⟨rfl, hn⟩
  · exact .inr ⟨none, [], rfl, fun e he => ofBytes_one (s := b) (by simpa using he)⟩
theorem cloneV_one (v : PV) (b : List UInt8) : (cloneV v b).cells = [cloneV v b] ∧ (cloneV v b).one = true := by
  unfold cloneV; split <;> exact ⟨rfl, rfl⟩
theorem readV_one (D : Dk) (n : Nm) : (readV D n).cells = [readV D n] ∧ (readV D n).one = true := by
  rcases readV_cases D n with h | ⟨f, _, h⟩ <;> rw [h]
  · exact ⟨rfl, rfl⟩
  · exact cloneV_one _ _
theorem namesV_one (l : List (Nm × Nat)) : (namesV l).cells = [namesV l] ∧ (namesV l).one = true := by
  unfold namesV; split <;> exact ⟨rfl, rfl⟩
theorem listV_one (D : Dk) : (listV D).cells = [listV D] ∧ (listV D).one = true := by
  unfold listV; split
  · exact ⟨rfl, rfl⟩
  · exact namesV_one _
theorem read_isl {S : St} {o K : Nat} {D : Dk} (h : At S o K D) (n : Nm) : ∃ s, IsSl 1 (readV D n) (ofBytes s) := by
  rcases readV_cases D n with h' | ⟨f, hf, h'⟩ <;> rw [h']
  · exact ⟨[], .inl ⟨rfl, rfl⟩⟩
  · exact ⟨_, cloneV_isl (h.file f (h.inl _ (lk_mem hf))).2.1⟩

/-- The names that List tells. -/
def namesL (D : Dk) : List Nm := if D.dark then [] else sortN D.live
theorem listV_reads (D : Dk) : Reads1 1 (listV D) ((namesL D).map .str) := by
  unfold listV namesL
  split
  · exact reads_nils 1
  · exact namesV_reads _
theorem At.namesLen {S : St} {o K : Nat} {D : Dk} (h : At S o K D) : (namesL D).length ≤ K := by
  unfold namesL; split
  · simp
  · rw [sortN_len]; exact h.ll
theorem At.namesMax {S : St} {o K : Nat} {D : Dk} (h : At S o K D) : ∀ n ∈ namesL D, n.length ≤ maxLen := by
  intro n hn
  unfold namesL at hn; split at hn
  · cases hn
  · have h2 : n ∈ D.live.map (·.1) := (List.mergeSort_perm _ _).mem_iff.1 hn
    obtain ⟨p, hp, rfl⟩ := List.mem_map.1 h2
    exact Nat.le_trans (h.nl p hp) (by decide)

/-! ### same, begins -/

theorem same_loop {A B : List Nm} {av bv : PV} (ha : Reads1 1 av (A.map .str)) (hb : Reads1 1 bv (B.map .str)) (hA : A.length ≤ maxLen) {K : List Kt} {Q : Fr → St → Prop} {S : St} :
    ∀ (ra rb pa pb : List Nm), A = pa ++ ra → B = pb ++ rb → pa.length = pb.length → ra.length = rb.length → ∀ (fr : Fr), fr 0 = av → fr 1 = bv → fr 5 = .int .i64 pa.length →
    (ra = rb → ∀ fr', Ok (gval T K fr' S) Q) → (ra ≠ rb → ∀ fr', fr' 4 = .bool false → Q fr' S) →
    Ok (gval T (.lp law04_same_l0 :: .blk 0 :: K) fr S) Q := by
  intro ra
  induction ra with
  | nil =>
    intro rb pa pb hp1 hp2 hl hr fr h0 h1 h5 k1 k2
    have hrb : rb = [] := by simpa using hr.symm
    subst hrb
    rw [List.append_nil] at hp1 hp2; subst hp1; subst hp2
    have hlen := ha.len
    rw [List.length_map] at hlen
    rw [gval_lp]
    simp -implicitDefEqProofs [h0, h1, h5, hlen]
    exact k1 rfl _
  | cons x ra ih =>
    intro rb pa pb hp1 hp2 hl hr fr h0 h1 h5 k1 k2
    cases rb with
    | nil => simp at hr
    | cons y rb =>
      have hi : pa.length < A.length := by rw [hp1]; simp
      have hi2 : pa.length < B.length := by rw [hp2, hl]; simp
      have hlen := ha.len
      rw [List.length_map] at hlen
      have hga := ha.get pa.length (by simpa using hi) .i64
      have hgb := hb.get pa.length (by simpa using hi2) .i64
      have hgx : (A.map PV.str)[pa.length]'(by simpa using hi) = .str x := by simp [hp1]
      have hgy : (B.map PV.str)[pa.length]'(by simpa using hi2) = .str y := by simp [hp2, hl]
      rw [hgx, cells_str] at hga
      rw [hgy, cells_str] at hgb
      unfold maxLen at hA
      have hw := wrap_len (a := pa.length) (by omega)
      have hL : ∀ fr', fr' 0 = av → fr' 1 = bv → fr' 5 = .int .i64 ((pa.length + 1 : Nat) : Int) → x = y → Ok (gval T (.lp law04_same_l0 :: .blk 0 :: K) fr' S) Q := by
        intro fr' g0 g1 g5 e
        subst e
        refine ih rb (pa ++ [x]) (pb ++ [x]) (by simp [hp1]) (by simp [hp2]) (by simp [hl]) (by simpa using hr) fr' g0 g1 (by simpa using g5) (fun e => k1 (by rw [e])) (fun e => k2 (fun e' => e (by simpa using e')))
      have hR : ∀ fr', fr' 4 = .bool false → x ≠ y → Q fr' S := fun fr' g4 e => k2 (fun e' => e (by simp at e'; exact e'.1)) fr' g4
      clear k1 k2 ih
      by_cases e : x = y
      · rw [gval_lp]
        simp -implicitDefEqProofs [h0, h1, h5, hlen, hi, hga, hgb, part1, e]
        exact hL _ (by simp [h0]) (by simp [h1]) (by simp [hw]) e
      · have e' : (x == y) = false := by simpa using e
        rw [gval_lp]
        simp -implicitDefEqProofs [h0, h1, h5, hlen, hi, hga, hgb, part1, e']
        exact hR _ (by simp) e

theorem same_val {A B : List Nm} {av bv : PV} (ha : Reads1 1 av (A.map .str)) (hb : Reads1 1 bv (B.map .str)) (hA : A.length ≤ maxLen) {S : St} :
    cval T 91 [av, bv] S = some (.bool (decide (A = B)), S) := by
  have hlen := ha.len
  have hlen2 := hb.len
  rw [List.length_map] at hlen hlen2
  have fb : ∀ b, finish false S S (.bool b) = (.bool b, S) := fun b => fin_gb (Grows.refl S)
  refine cval_ok' fn_91 rfl ?_
  by_cases hl : A.length = B.length
  · have hl' : ((A.length : Int) != B.length) = false := by simp; omega
    simp -implicitDefEqProofs [law04_same, hlen, hlen2, hl']
    refine same_loop ha hb hA A B [] [] rfl rfl rfl hl _ (by simp) (by simp) (by simp) (fun e fr' => ?_) (fun e fr' h4 => ?_)
    · simp [e, fb]
    · simp [h4, e, fb]
  · have hl' : ((A.length : Int) != B.length) = true := by simp; omega
    have hne : A ≠ B := fun e => hl (by rw [e])
    simp -implicitDefEqProofs [law04_same, hlen, hlen2, hl', hne, fb]

theorem begins_val {s t : List UInt8} {sv tv : PV} (hs : IsSl 1 sv (ofBytes s)) (ht : IsSl 1 tv (ofBytes t)) (hp : t <+: s) {S : St} : cval T 468 [sv, tv] S = some (.bool true, S) := by
  have l1 := hs.len
  have l2 := ht.len
  rw [ofBytes_len] at l1 l2
  have hle := hp.length_le
  obtain ⟨v', h1, h2⟩ := hs.hi (hi := t.length) (j := .i64) (by rw [ofBytes_len]; exact hle)
  have htk : (ofBytes s).take t.length = ofBytes t := by
    obtain ⟨r, rfl⟩ := hp
    rw [ofBytes_app, List.take_append_of_le_length (by rw [ofBytes_len]; omega), List.take_of_length_le (by rw [ofBytes_len]; omega)]
  rw [htk] at h2
  have e1 := toStr_isl h2
  have e2 := toStr_isl ht
  have hle' : (t.length : Int) ≤ s.length := by omega
  have fb : ∀ b, finish false S S (.bool b) = (.bool b, S) := fun b => fin_gb (Grows.refl S)
  refine cval_ok' fn_468 rfl ?_
  simp -implicitDefEqProofs [law04_begins, l1, l2, hle', hle, h1, e1, e2, fb]

/-! ### Gathering -/

structure AccS (S : St) (D : Dk) (v : PV) (es : List PV) : Prop where
  acc : (v = .nils ∧ es = []) ∨ ∃ id, v = .sl (some (id, es.length)) es [] ∧ S.tips[id]? = some (es.length, 1) ∧ ¬ Owns D id
  one : ∀ e ∈ es, e.cells.length = 1

theorem AccS.fra {S S' : St} {D D' : Dk} {v : PV} {es : List PV} (h : AccS S D v es) (f : Fra S S' D D') : AccS S' D' v es := by
  refine ⟨?_, h.one⟩
  rcases h.acc with h | ⟨id, h1, h2, h3⟩
  · exact .inl h
  · obtain ⟨k1, k2⟩ := f.keep id (List.getElem?_eq_some_iff.1 h2).1 h3
    exact .inr ⟨id, h1, k2.trans h2, k1⟩
theorem AccS.reads {S : St} {D : Dk} {v : PV} {es : List PV} (h : AccS S D v es) : Reads1 1 v es := by
  rcases h.acc with ⟨rfl, rfl⟩ | ⟨id, rfl, _⟩
  · exact reads_nils 1
  · exact reads_sl h.one

theorem At.owns {S : St} {o K : Nat} {D : Dk} (h : At S o K D) {k : Nat} (hk : Owns D k) : k < S.tips.length := by
  rcases hk with hk | ⟨f, hf, hk⟩
  · exact h.wv.tip hk
  · exact (h.file f hf).2.1.tip hk
theorem At.tips {S : St} {o K : Nat} {D : Dk} (h : At S o K D) {tips' : List (Nat × Nat)} (ht : ∀ k, Owns D k → tips'[k]? = S.tips[k]?) : At ⟨S.objs, tips'⟩ o K D where
  obj := h.obj
  base := h.base
  live := h.live
  wv := h.wv.of fun k hk => ht k (.inl hk)
  file := fun f hf => by
    obtain ⟨h1, h2, h3⟩ := h.file f hf
    exact ⟨h1, h2.of (fun k hk => ht k (.inr ⟨f, hf, hk⟩)), h3⟩
  inb := h.inb
  inw := h.inw
  nd := h.nd
  tw := h.tw
  tf := h.tf
  hist := h.hist
  nb := h.nb
  nw := h.nw
  rm := h.rm
  cnt := h.cnt
  dn := h.dn
  lf := h.lf
theorem At.more {S : St} {o K : Nat} {D : Dk} (h : At S o K D) (x : List (Nat × Nat)) : At ⟨S.objs, S.tips ++ x⟩ o K D := h.tips fun k hk => List.getElem?_append_left (h.owns hk)

theorem acc_first {S : St} {o K : Nat} {D : Dk} (h : At S o K D) {e : PV} (he : e.cells.length = 1) : AccS ⟨S.objs, S.tips ++ [(1, 1)]⟩ D (.sl (some (S.tips.length, 1)) [e] []) [e] :=
  ⟨.inr ⟨S.tips.length, rfl, by simp, fun hk => by have := h.owns hk; omega⟩, fun x hx => by simp at hx; rw [hx]; exact he⟩

theorem acc_push {S : St} {o K : Nat} {D : Dk} (h : At S o K D) {v : PV} {es : List PV} (ha : AccS S D v es) (hl : es.length ≤ 1000000) {e : PV} (he : e.cells.length = 1) :
    ∃ v' S', appendTo 1 24 ⟨S.objs, S.tips ++ [(1, 1)]⟩ v [e] = some (v', S') ∧ At S' o K D ∧ AccS S' D v' (es ++ [e]) := by
  have h1 := h.more [(1, 1)]
  have hone : ∀ x ∈ es ++ [e], x.cells.length = 1 := fun x hx => by
    rcases List.mem_append.1 hx with hx | hx
    · exact ha.one x hx
    · simp at hx; rw [hx]; exact he
  rcases ha.acc with ⟨rfl, rfl⟩ | ⟨id, rfl, h2, h3⟩
  · refine ⟨_, _, appendTo_nils (by simp) (by simp), ?_, ?_⟩
    · exact h1.more _
    · refine ⟨.inr ⟨S.tips.length + 1, by simp [newArr], by simp [newArr], fun hk => by have := h.owns hk; omega⟩, by simpa using hone⟩
  · have hlt := (List.getElem?_eq_some_iff.1 h2).1
    refine ⟨_, _, appendTo_sl (by simp) (by simp only; rw [List.getElem?_append_left hlt]; exact h2) (by simp; omega), ?_, ?_⟩
    · refine h.tips (fun k hk => ?_)
      have hne : id ≠ k := fun e => h3 (by rw [e]; exact hk)
      rw [List.getElem?_set_ne hne, List.getElem?_append_left (h.owns hk)]
    · refine ⟨.inr ⟨id, by simp, ?_, h3⟩, hone⟩
      simp only [List.length_append, List.length_cons, List.length_nil]
      exact List.getElem?_set_self (by rw [List.length_append]; omega)

end Ps
