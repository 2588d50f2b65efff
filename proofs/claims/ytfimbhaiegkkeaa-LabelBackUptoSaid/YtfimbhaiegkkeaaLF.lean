/- Picking labels. -/
import Derived.Test.YtfimbhaiegkkeaaLE
namespace Ps
set_option linter.unusedSimpArgs false
open Go

theorem fn_33 : T.fn 33 = some (.code law06_own) := rfl
theorem fn_39 : T.fn 39 = some (.code law06_kept) := rfl
theorem fn_34 : T.fn 34 = some (.code label_Get) := rfl
theorem fn_114 : T.fn 114 = some (.code slices_IndexFunc_Label) := rfl
theorem fn_115 : T.fn 115 = some (.code label_Get_1) := rfl
theorem fn_35 : T.fn 35 = some (.code ref06_Get) := rfl
theorem fn_36 : T.fn 36 = some (.code label_Keep) := rfl
theorem fn_116 : T.fn 116 = some (.code label_those_Label) := rfl
theorem fn_117 : T.fn 117 = some (.code label_Keep_1) := rfl
theorem fn_38 : T.fn 38 = some (.code label_Drop) := rfl
theorem fn_120 : T.fn 120 = some (.code label_Drop_1) := rfl
theorem fn_118 : T.fn 118 = some (.code slices_Contains_string) := rfl
theorem fn_221 : T.fn 221 = some (.code slices_Index_string) := rfl
theorem fn_37 : T.fn 37 = some (.code ref06_Pick) := rfl
theorem fn_119 : T.fn 119 = some (.code ref06_Has) := rfl

theorem p1 {a : PV} {m : List PV} : partOf false 1 (a :: m) = some a := by simp [partOf]
theorem p2 {a b : PV} : partOf true 2 [a, b] = some (.agg [a, b]) := rfl
@[simp] theorem labV_free (x : Lab) : (labV x).free = true := rfl
@[simp] theorem labV_frz (x : Lab) : (labV x).frz = labV x := rfl
@[simp] theorem labV_one (x : Lab) : (labV x).cells.all PV.one = true := rfl
theorem labs_free (l : List Lab) : PV.freeL (l.map labV) = true := freeL_map labV labV_free l
theorem labs_frz (l : List Lab) : PV.frzL (l.map labV) = l.map labV := frzL_map' labV labV_frz l
theorem labs_cells (l : List Lab) : ∀ e ∈ l.map labV, e.cells.length = 2 := by
  intro e he
  obtain ⟨x, _, rfl⟩ := List.mem_map.1 he
  rfl
theorem szOk_labs (l : List Lab) : szOk 2 (l.map labV) = true := by cases l <;> rfl

/-- Texts in a slice. -/
def strsV (l : List (List UInt8)) : List PV := l.map .str

theorem str_get {l p r : List (List UInt8)} {x : List UInt8} {v : PV} (hv : Reads1 1 v (strsV l)) (hl : l = p ++ x :: r) : iaddrP 1 v (.int .i64 (p.length : Int)) = some (.ref [.str x]) := by
  have h : p.length < (strsV l).length := by rw [hl]; simp [strsV]
  have := hv.get p.length h .i64
  have e : (strsV l)[p.length] = .str x := by simp [hl, strsV]
  rw [e] at this
  exact this

/-- Where a text stands first; -1: nowhere. -/
def findT (s : List UInt8) (i : Nat) : List (List UInt8) → Int
  | [] => -1
  | x :: l => if s = x then i else findT s (i + 1) l

theorem findT_has (s : List UInt8) : ∀ (l : List (List UInt8)) (i : Nat), decide (0 ≤ findT s i l) = l.contains s
  | [], i => rfl
  | x :: l, i => by
    simp only [findT, List.contains_cons]
    by_cases h : s = x
    · simp [h]
    · simp only [if_neg h, findT_has s l (i + 1)]
      simp [h]

theorem idxs_loop {l : List (List UInt8)} {s : List UInt8} {v : PV} (hv : Reads1 1 v (strsV l)) (hl : l.length ≤ maxLen) {K : List Kt} {Q : Fr → St → Prop} {S : St} : ∀ (r p : List (List UInt8)), l = p ++ r → ∀ (fr : Fr),
    fr 0 = v → fr 1 = .str s → fr 7 = .int .i64 l.length → fr 8 = .int .i64 p.length →
    (findT s p.length r = -1 → ∀ fr', Ok (gval T K fr' S) Q) → (∀ fr', findT s p.length r ≠ -1 → fr' 4 = .int .i64 (findT s p.length r) → Q fr' S) →
    Ok (gval T (.lp slices_Index_string_l0 :: .blk 0 :: K) fr S) Q := by
  intro r
  induction r with
  | nil =>
    intro p e fr h0 h1 h7 h8 k1 k2
    rw [List.append_nil] at e; subst e
    rw [gval_lp]
    simp -implicitDefEqProofs [h7, h8]
    exact k1 rfl _
  | cons x r ih =>
    intro p e fr h0 h1 h7 h8 k1 k2
    have hlt : p.length < l.length := by rw [e]; simp
    have g := str_get hv e
    unfold maxLen at hl
    have hw := wrap_len (a := p.length) (by omega)
    rw [gval_lp]
    simp -implicitDefEqProofs [h0, h1, h7, h8, hlt, g, p1]
    refine ok_br (fun a => ?_) (fun a => ?_)
    · have a' : s = x := by simpa using a
      refine ok_ret (k2 _ ?_ ?_)
      · simp [findT, a']
      · simp [findT, a']
    · have a' : ¬ s = x := by simpa using a
      refine ih (p ++ [x]) (by simp [e]) _ (by simp [h0]) (by simp [h1]) (by simp [h7]) (by simp [hw]) (fun hz => k1 ?_) (fun fr' hz h4 => k2 fr' ?_ ?_)
      · simpa [findT, a'] using hz
      · simpa [findT, a'] using hz
      · simpa [findT, a'] using h4

theorem has_val {l : List (List UInt8)} {s : List UInt8} {v : PV} (hv : Reads1 1 v (strsV l)) (hl : l.length ≤ maxLen) (S : St) : cval T 118 [v, .str s] S = some (.bool (l.contains s), S) := by
  have h1 : cval T 221 [v, .str s] S = some (.int .i64 (findT s 0 l), S) := by
    refine cval_ok' fn_221 rfl ?_
    have hlen := hv.len
    simp only [strsV, List.length_map] at hlen
    simp -implicitDefEqProofs [slices_Index_string, hlen]
    refine idxs_loop (s := s) hv hl l [] rfl _ (by simp) (by simp) (by simp) (by simp) (fun hz fr' => ?_) (fun fr' hz h4 => ?_)
    · have hz' : findT s 0 l = -1 := hz
      simp [hz']
    · have h4' : fr' 4 = .int .i64 (findT s 0 l) := h4
      simp [h4']
  refine cval_ok' fn_118 rfl ?_
  simp -implicitDefEqProofs [slices_Contains_string, h1, findT_has]

theorem keep1_val {names : List (List UInt8)} {x : Lab} {v : PV} (hv : Reads1 1 v (strsV names)) (hl : names.length ≤ maxLen) {id : Nat} {S : St} (ho : S.objs[id]? = some [v]) : cval T 117 [labV x, .ptr id 0] S = some (.bool (names.contains x.1), S) := by
  refine cval_ok' fn_117 rfl ?_
  simp -implicitDefEqProofs [label_Keep_1, labV, pstep, loadP_ptr ho, p1, has_val hv hl]
theorem drop1_val {names : List (List UInt8)} {x : Lab} {v : PV} (hv : Reads1 1 v (strsV names)) (hl : names.length ≤ maxLen) {id : Nat} {S : St} (ho : S.objs[id]? = some [v]) : cval T 120 [labV x, .ptr id 0] S = some (.bool (!names.contains x.1), S) := by
  refine cval_ok' fn_120 rfl ?_
  simp -implicitDefEqProofs [label_Drop_1, labV, pstep, loadP_ptr ho, p1, has_val hv hl]

theorem those_loop {l : List Lab} {v : PV} (hv : Reads1 2 v (l.map labV)) (hl : l.length ≤ 1048576) {g : Nat} {caps : List PV} {P : Lab → Bool} {S0 : St} (hcl : ∀ x S, Grows S0 S → cval T g (labV x :: caps) S = some (.bool (P x), S)) {K : List Kt} {Q : Fr → St → Prop} : ∀ (r p : List Lab), l = p ++ r → ∀ (fr : Fr) (S : St),
    fr 1 = .fn g caps → fr 8 = v → fr 9 = .int .i64 l.length → fr 10 = .int .i64 p.length → AccG S0 2 S (fr 5) ((p.filter P).map labV) →
    (∀ fr' S', AccG S0 2 S' (fr' 5) ((l.filter P).map labV) → Ok (gval T K fr' S') Q) →
    Ok (gval T (.lp label_those_Label_l0 :: .blk 0 :: K) fr S) Q := by
  intro r
  induction r with
  | nil =>
    intro p e fr S h1 h8 h9 h10 ha k
    rw [List.append_nil] at e; subst e
    rw [gval_lp]
    simp -implicitDefEqProofs [h8, h9, h10]
    exact k _ _ (by simpa using ha)
  | cons x r ih =>
    intro p e fr S h1 h8 h9 h10 ha k
    have hlt : p.length < l.length := by rw [e]; simp
    have hg := sl_get hv e
    have hw := wrap_len (a := p.length) (by omega)
    have hcl' := fun S h => hcl x S h
    simp only [labV] at hcl'
    have hfl : (p.filter P).length ≤ p.length := List.length_filter_le _ _
    rw [gval_lp]
    simp -implicitDefEqProofs [h1, h8, h9, h10, hlt, hg, p2, pstep, putCells, hcl' _ (ha.grows.obj _), elems, setParts]
    refine ok_br (fun a => ?_) (fun a => ?_)
    · obtain ⟨v', S', e1, e2, e3⟩ := ((ha.objs [[.str x.1, .str x.2.1]]).arrs [(1, 2)]).app (bytes := 32) [labV x] (by simp; omega)
      simp only [labV] at e1
      simp -implicitDefEqProofs [e1]
      refine ih (p ++ [x]) (by simp [e]) _ S' (by simp [h1]) (by simp [h8]) (by simp [h9]) (by simp [hw]) ?_ k
      simp [a]
      simpa using e2
    · refine ih (p ++ [x]) (by simp [e]) _ _ (by simp [h1]) (by simp [h8]) (by simp [h9]) (by simp [hw]) ?_ k
      have := ha.objs [[.str x.1, .str x.2.1]]
      simpa [a] using this

/-- Labels, handed back. -/
structure SlL (v : PV) (l : List Lab) : Prop where
  isl : IsSl 2 v (l.map labV)
  free : v.free = true
  frz : v.frz = v

theorem SlL.reads {v : PV} {l : List Lab} (h : SlL v l) : Reads1 2 v (l.map labV) := h.isl.reads

theorem slF_lab {S0 S : St} {v : PV} {l : List Lab} (ha : AccG S0 2 S v (l.map labV)) : SlL (slF v (l.map labV)) l := by
  refine ⟨slF_isSl ha (labs_cells _), ?_, ?_⟩
  · rcases ha.acc with ⟨h, _⟩ | ⟨id, _, h, _⟩
    · rw [h]; rfl
    · rw [h]; simp [slF, PV.free, labs_free]
  · rcases ha.acc with ⟨h, _⟩ | ⟨id, _, h, _⟩
    · rw [h]; rfl
    · rw [h]; simp [slF, PV.frz, labs_frz]

theorem those_val {l : List Lab} {v : PV} (hv : Reads1 2 v (l.map labV)) (hl : l.length ≤ 1048576) {g : Nat} {caps : List PV} {P : Lab → Bool} {S : St} (hcl : ∀ x S', Grows S S' → cval T g (labV x :: caps) S' = some (.bool (P x), S')) :
    ∃ v', cval T 116 [v, .fn g caps] S = some (v', S) ∧ SlL v' (l.filter P) := by
  have key := cval_ex (T := T) (f := 116) (c := label_those_Label) fn_116 (args := [v, .fn g caps]) (S := S) rfl (R := fun r S2 => S2 = S ∧ SlL r (l.filter P)) ?_
  · obtain ⟨r, S2, h1, rfl, h2⟩ := key
    exact ⟨r, h1, h2⟩
  have hlen := hv.len
  rw [List.length_map] at hlen
  simp -implicitDefEqProofs [label_those_Label, hlen]
  refine those_loop hv hl hcl l [] rfl _ S (by simp) (by simp) (by simp) (by simp) (by simpa using accg_nil 2 (Grows.refl S)) (fun fr' S' ha => ?_)
  have hfin := ha.fin (labs_free _) (labs_frz _)
  simp [hfin]
  exact slF_lab ha

theorem keep_val {l : List Lab} {names : List (List UInt8)} {v v2 : PV} (hv : Reads1 2 v (l.map labV)) (hl : l.length ≤ 1048576) (hv2 : Reads1 1 v2 (strsV names)) (hn : names.length ≤ maxLen) (h1 : v2.cells = [v2]) (h2 : v2.one = true) (S : St) :
    ∃ v', cval T 36 [v, v2] S = some (v', S) ∧ SlL v' (l.filter fun x => names.contains x.1) := by
  have hcl : ∀ x S', Grows ⟨S.objs ++ [[v2]], S.tips⟩ S' → cval T 117 (labV x :: [.ptr S.objs.length 0]) S' = some (.bool (names.contains x.1), S') :=
    fun x S' hg => keep1_val hv2 hn (hg.get (by simp))
  obtain ⟨v', e1, e2⟩ := those_val hv hl (g := 117) (caps := [.ptr S.objs.length 0]) hcl
  refine ⟨v', ?_, e2⟩
  refine cval_ok' fn_36 rfl ?_
  simp -implicitDefEqProofs [label_Keep, pstep, h1, h2, e1]
  rw [fin_free ((Grows.refl S).obj _) e2.free, e2.frz]

theorem drop_val {l : List Lab} {names : List (List UInt8)} {v v2 : PV} (hv : Reads1 2 v (l.map labV)) (hl : l.length ≤ 1048576) (hv2 : Reads1 1 v2 (strsV names)) (hn : names.length ≤ maxLen) (h1 : v2.cells = [v2]) (h2 : v2.one = true) (S : St) :
    ∃ v', cval T 38 [v, v2] S = some (v', S) ∧ SlL v' (l.filter fun x => !names.contains x.1) := by
  have hcl : ∀ x S', Grows ⟨S.objs ++ [[v2]], S.tips⟩ S' → cval T 120 (labV x :: [.ptr S.objs.length 0]) S' = some (.bool (!names.contains x.1), S') :=
    fun x S' hg => drop1_val hv2 hn (hg.get (by simp))
  obtain ⟨v', e1, e2⟩ := those_val hv hl (g := 120) (caps := [.ptr S.objs.length 0]) hcl
  refine ⟨v', ?_, e2⟩
  refine cval_ok' fn_38 rfl ?_
  simp -implicitDefEqProofs [label_Drop, pstep, h1, h2, e1]
  rw [fin_free ((Grows.refl S).obj _) e2.free, e2.frz]

/-! The document's. -/
theorem rhas_loop {l : List (List UInt8)} {s : List UInt8} {v : PV} (hv : Reads1 1 v (strsV l)) (hl : l.length ≤ maxLen) {K : List Kt} {Q : Fr → St → Prop} {S : St} : ∀ (r p : List (List UInt8)), l = p ++ r → ∀ (fr : Fr),
    fr 0 = v → fr 1 = .str s → fr 5 = .int .i64 p.length →
    (r.contains s = false → ∀ fr', Ok (gval T K fr' S) Q) → (r.contains s = true → ∀ fr', fr' 4 = .bool true → Q fr' S) →
    Ok (gval T (.lp ref06_Has_l0 :: .blk 0 :: K) fr S) Q := by
  intro r
  induction r with
  | nil =>
    intro p e fr h0 h1 h5 k1 k2
    rw [List.append_nil] at e; subst e
    have hlen := hv.len
    simp only [strsV, List.length_map] at hlen
    rw [gval_lp]
    simp -implicitDefEqProofs [h0, h5, hlen]
    exact k1 rfl _
  | cons x r ih =>
    intro p e fr h0 h1 h5 k1 k2
    have hlt : p.length < l.length := by rw [e]; simp
    have g := str_get hv e
    have hlen := hv.len
    simp only [strsV, List.length_map] at hlen
    unfold maxLen at hl
    have hw := wrap_len (a := p.length) (by omega)
    rw [gval_lp]
    simp -implicitDefEqProofs [h0, h1, h5, hlt, g, p1, hlen]
    refine ok_br (fun a => ?_) (fun a => ?_)
    · have a' : x = s := by simpa using a
      exact ok_ret (k2 (by simp [a']) _ (by simp))
    · have a' : ¬ x = s := by simpa using a
      have a2 : ¬ s = x := fun h => a' h.symm
      refine ih (p ++ [x]) (by simp [e]) _ (by simp [h0]) (by simp [h1]) (by simp [hw]) (fun hz => k1 ?_) (fun hz => k2 ?_)
      · simp only [List.contains_cons, hz, Bool.or_false, beq_eq_false_iff_ne]; exact a2
      · simp only [List.contains_cons, hz, Bool.or_true]

theorem rhas_val {l : List (List UInt8)} {s : List UInt8} {v : PV} (hv : Reads1 1 v (strsV l)) (hl : l.length ≤ maxLen) (S : St) : cval T 119 [v, .str s] S = some (.bool (l.contains s), S) := by
  refine cval_ok' fn_119 rfl ?_
  simp -implicitDefEqProofs [ref06_Has]
  refine rhas_loop (s := s) hv hl l [] rfl _ (by simp) (by simp) (by simp) (fun hz fr' => ?_) (fun hz fr' h4 => ?_)
  · simp; simpa using hz
  · simp [h4]; simpa using hz

theorem pick_loop {l : List Lab} {names : List (List UInt8)} {b : Bool} {v v2 : PV} (hv : Reads1 2 v (l.map labV)) (hl : l.length ≤ 1048576) (hv2 : Reads1 1 v2 (strsV names)) (hn : names.length ≤ maxLen) {S0 : St} {K : List Kt} {Q : Fr → St → Prop} : ∀ (r p : List Lab), l = p ++ r → ∀ (fr : Fr) (S : St),
    fr 0 = v → fr 1 = v2 → fr 2 = .bool b → fr 8 = .int .i64 p.length → AccG S0 2 S (fr 7) ((p.filter fun x => names.contains x.1 == b).map labV) →
    (∀ fr' S', AccG S0 2 S' (fr' 7) ((l.filter fun x => names.contains x.1 == b).map labV) → Ok (gval T K fr' S') Q) →
    Ok (gval T (.lp ref06_Pick_l0 :: .blk 0 :: K) fr S) Q := by
  intro r
  induction r with
  | nil =>
    intro p e fr S h0 h1 h2 h8 ha k
    rw [List.append_nil] at e; subst e
    have hlen := hv.len
    rw [List.length_map] at hlen
    rw [gval_lp]
    simp -implicitDefEqProofs [h0, h8, hlen]
    exact k _ _ (by simpa using ha)
  | cons x r ih =>
    intro p e fr S h0 h1 h2 h8 ha k
    have hlt : p.length < l.length := by rw [e]; simp
    have hg := sl_get hv e
    have hlen := hv.len
    rw [List.length_map] at hlen
    have hw := wrap_len (a := p.length) (by omega)
    have hfl : (p.filter fun x => names.contains x.1 == b).length ≤ p.length := List.length_filter_le _ _
    rw [gval_lp]
    simp -implicitDefEqProofs [h0, h1, h2, h8, hlt, hlen, hg, p1, p2, pstep, rhas_val hv2 hn, elems, setParts]
    refine ok_br (fun a => ?_) (fun a => ?_)
    · obtain ⟨v', S', e1, e2, e3⟩ := (ha.arrs [(1, 2)]).app (bytes := 32) [labV x] (by rw [List.length_map, List.length_singleton]; omega)
      simp only [labV] at e1
      simp -implicitDefEqProofs [e1]
      refine ih (p ++ [x]) (by simp [e]) _ S' (by simp [h0]) (by simp [h1]) (by simp [h2]) (by simp [hw]) ?_ k
      have a' : (names.contains x.1 == b) = true := by simpa using a
      rw [List.filter_append, List.filter_cons_of_pos (by exact a')]
      simpa using e2
    · refine ih (p ++ [x]) (by simp [e]) _ _ (by simp [h0]) (by simp [h1]) (by simp [h2]) (by simp [hw]) ?_ k
      have a' : ¬ (names.contains x.1 == b) = true := by simpa using a
      rw [List.filter_append, List.filter_cons_of_neg (by exact a')]
      simpa using ha

theorem pick_val {l : List Lab} {names : List (List UInt8)} {b : Bool} {v v2 : PV} (hv : Reads1 2 v (l.map labV)) (hl : l.length ≤ 1048576) (hv2 : Reads1 1 v2 (strsV names)) (hn : names.length ≤ maxLen) (S : St) :
    ∃ v', cval T 37 [v, v2, .bool b] S = some (v', S) ∧ SlL v' (l.filter fun x => names.contains x.1 == b) := by
  have key := cval_ex (T := T) (f := 37) (c := ref06_Pick) fn_37 (args := [v, v2, .bool b]) (S := S) rfl (R := fun r S2 => S2 = S ∧ SlL r (l.filter fun x => names.contains x.1 == b)) ?_
  · obtain ⟨r, S2, h1, rfl, h2⟩ := key
    exact ⟨r, h1, h2⟩
  simp -implicitDefEqProofs [ref06_Pick]
  refine pick_loop (b := b) hv hl hv2 hn l [] rfl _ S (by simp) (by simp) (by simp) (by simp) (by simpa using accg_nil 2 (Grows.refl S)) (fun fr' S' ha => ?_)
  have hfin := ha.fin (labs_free _) (labs_frz _)
  simp [hfin]
  simpa using slF_lab ha


/-! A label's value. -/
def getT (l : List Lab) (name : List UInt8) : List UInt8 := match l.find? (fun x => x.1 == name) with | some x => x.2.1 | none => []

theorem get1_val {x : Lab} {name : List UInt8} {id : Nat} {S : St} (ho : S.objs[id]? = some [.str name]) : cval T 115 [labV x, .ptr id 0] S = some (.bool (x.1 == name), S) := by
  refine cval_ok' fn_115 rfl ?_
  simp -implicitDefEqProofs [label_Get_1, labV, pstep, loadP_ptr ho, p1]

/-- Where a label stands first. -/
def findL (P : Lab → Bool) (i : Nat) : List Lab → Int
  | [] => -1
  | x :: l => if P x then i else findL P (i + 1) l

theorem ixf_loop {l : List Lab} {v : PV} (hv : Reads1 2 v (l.map labV)) (hl : l.length ≤ maxLen) {g : Nat} {caps : List PV} {P : Lab → Bool} {S : St} (hcl : ∀ x, cval T g (labV x :: caps) S = some (.bool (P x), S)) {K : List Kt} {Q : Fr → St → Prop} : ∀ (r p : List Lab), l = p ++ r → ∀ (fr : Fr),
    fr 0 = v → fr 1 = .fn g caps → fr 7 = .int .i64 l.length → fr 8 = .int .i64 p.length →
    (findL P p.length r = -1 → ∀ fr', Ok (gval T K fr' S) Q) → (findL P p.length r ≠ -1 → ∀ fr', fr' 4 = .int .i64 (findL P p.length r) → Q fr' S) →
    Ok (gval T (.lp slices_IndexFunc_Label_l0 :: .blk 0 :: K) fr S) Q := by
  intro r
  induction r with
  | nil =>
    intro p e fr h0 h1 h7 h8 k1 k2
    rw [List.append_nil] at e; subst e
    rw [gval_lp]
    simp -implicitDefEqProofs [h7, h8]
    exact k1 rfl _
  | cons x r ih =>
    intro p e fr h0 h1 h7 h8 k1 k2
    have hlt : p.length < l.length := by rw [e]; simp
    have hg := sl_get hv e
    unfold maxLen at hl
    have hw := wrap_len (a := p.length) (by omega)
    have hcl' := hcl x
    simp only [labV] at hcl'
    rw [gval_lp]
    simp -implicitDefEqProofs [h0, h1, h7, h8, hlt, hg, p2, hcl']
    refine ok_br (fun a => ?_) (fun a => ?_)
    · exact ok_ret (k2 (by simp [findL, a]) _ (by simp [findL, a]))
    · refine ih (p ++ [x]) (by simp [e]) _ (by simp [h0]) (by simp [h1]) (by simp [h7]) (by simp [hw]) (fun hz => k1 ?_) (fun hz => by simpa [findL, a] using k2 (by simpa [findL, a] using hz))
      simpa [findL, a] using hz

theorem findL_get (P : Lab → Bool) : ∀ (r p : List Lab), (findL P p.length r = -1 ∧ r.find? P = none) ∨ ∃ q x s, findL P p.length r = ((p ++ q).length : Int) ∧ r = q ++ x :: s ∧ r.find? P = some x
  | [], p => .inl ⟨rfl, rfl⟩
  | x :: r, p => by
    by_cases h : P x = true
    · exact .inr ⟨[], x, r, by simp [findL, h], rfl, by simp [h]⟩
    · have h' : P x = false := by simpa using h
      rcases findL_get P r (p ++ [x]) with ⟨a, b⟩ | ⟨q, y, s, a, b, c⟩
      · left; simp only [findL, h', Bool.false_eq_true, if_false]
        refine ⟨by simpa using a, by simp [h', b]⟩
      · right
        refine ⟨x :: q, y, s, ?_, by simp [b], by simp [h', c]⟩
        simp only [findL, h', Bool.false_eq_true, if_false]
        simpa using a

theorem get_val {l : List Lab} {name : List UInt8} {v : PV} (hv : Reads1 2 v (l.map labV)) (hl : l.length ≤ maxLen) (S : St) : cval T 34 [v, .str name] S = some (.str (getT l name), S) := by
  have hcl : ∀ x, cval T 115 (labV x :: [.ptr S.objs.length 0]) ⟨S.objs ++ [[.str name]], S.tips⟩ = some (.bool (x.1 == name), ⟨S.objs ++ [[.str name]], S.tips⟩) := fun x => get1_val (by simp)
  have h1 : cval T 114 [v, .fn 115 [.ptr S.objs.length 0]] ⟨S.objs ++ [[.str name]], S.tips⟩ = some (.int .i64 (findL (fun x => x.1 == name) 0 l), ⟨S.objs ++ [[.str name]], S.tips⟩) := by
    refine cval_ok' fn_114 rfl ?_
    have hlen := hv.len
    rw [List.length_map] at hlen
    simp -implicitDefEqProofs [slices_IndexFunc_Label, hlen]
    refine ixf_loop (P := fun x => x.1 == name) hv hl hcl l [] rfl _ (by simp) (by simp) (by simp) (by simp) (fun hz fr' => ?_) (fun hz fr' h4 => ?_)
    · have hz' : findL (fun x => x.1 == name) 0 l = -1 := hz
      simp [hz']
    · have h4' : fr' 4 = .int .i64 (findL (fun x => x.1 == name) 0 l) := h4
      simp [h4']
  refine cval_ok' fn_34 rfl ?_
  have hf := findL_get (fun x => x.1 == name) l []
  rcases hf with ⟨a, b⟩ | ⟨q, x, s, a, b, c⟩
  · have a' : findL (fun x => x.1 == name) 0 l = -1 := a
    simp -implicitDefEqProofs [label_Get, pstep, h1, a', (Grows.refl S).obj, getT, b]
  · have a' : findL (fun x => x.1 == name) 0 l = (q.length : Int) := by simpa using a
    have hg := sl_get hv b
    simp -implicitDefEqProofs [label_Get, pstep, h1, a', hg, p1, (Grows.refl S).obj, getT, c]

theorem rget_loop {l : List Lab} {name : List UInt8} {v : PV} (hv : Reads1 2 v (l.map labV)) (hl : l.length ≤ maxLen) {K : List Kt} {Q : Fr → St → Prop} {S : St} : ∀ (r p : List Lab), l = p ++ r → ∀ (fr : Fr),
    fr 0 = v → fr 1 = .str name → fr 5 = .int .i64 p.length →
    (r.find? (fun x => x.1 == name) = none → ∀ fr', Ok (gval T K fr' S) Q) → (∀ x, r.find? (fun x => x.1 == name) = some x → ∀ fr', fr' 4 = .str x.2.1 → Q fr' S) →
    Ok (gval T (.lp ref06_Get_l0 :: .blk 0 :: K) fr S) Q := by
  intro r
  induction r with
  | nil =>
    intro p e fr h0 h1 h5 k1 k2
    rw [List.append_nil] at e; subst e
    have hlen := hv.len
    rw [List.length_map] at hlen
    rw [gval_lp]
    simp -implicitDefEqProofs [h0, h5, hlen]
    exact k1 rfl _
  | cons x r ih =>
    intro p e fr h0 h1 h5 k1 k2
    have hlt : p.length < l.length := by rw [e]; simp
    have hg := sl_get hv e
    have hlen := hv.len
    rw [List.length_map] at hlen
    unfold maxLen at hl
    have hw := wrap_len (a := p.length) (by omega)
    rw [gval_lp]
    simp -implicitDefEqProofs [h0, h1, h5, hlt, hg, p1, hlen]
    refine ok_br (fun a => ?_) (fun a => ?_)
    · exact ok_ret (k2 x (by simp [List.find?_cons, a]) _ (by simp))
    · refine ih (p ++ [x]) (by simp [e]) _ (by simp [h0]) (by simp [h1]) (by simp [hw]) (fun hz => k1 ?_) (fun y hz => k2 y ?_)
      · simp only [List.find?_cons, a, hz]
      · simp only [List.find?_cons, a, hz]

theorem rget_val {l : List Lab} {name : List UInt8} {v : PV} (hv : Reads1 2 v (l.map labV)) (hl : l.length ≤ maxLen) (S : St) : cval T 35 [v, .str name] S = some (.str (getT l name), S) := by
  refine cval_ok' fn_35 rfl ?_
  simp -implicitDefEqProofs [ref06_Get]
  refine rget_loop (name := name) hv hl l [] rfl _ (by simp) (by simp) (by simp) (fun hz fr' => ?_) (fun x hz fr' h4 => ?_)
  · simp [getT, hz]
  · simp [h4, getT, hz]
end Ps
