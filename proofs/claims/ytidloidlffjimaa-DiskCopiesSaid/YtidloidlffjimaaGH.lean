/- The disk in plain words and the document's: directories. -/
import Derived.Test.YtidloidlffjimaaGF
import Derived.Test.YtidloidlffjimaaPN
namespace Ps
set_option linter.unusedSimpArgs false
set_option linter.unusedVariables false
open Go
theorem fn_89 : T.fn 89 = some (.code ref04_Crash) := rfl

def cutF (kept : List Int) (i : Nat) (f : RF) : RF := ⟨slcV f.bv (kOf kept i f.b f.s.toNat), f.b.take (kOf kept i f.b f.s.toNat), (kOf kept i f.b f.s.toNat : Nat)⟩
def cutR (kept : List Int) : Nat → List RE → List RF → List RF
 | _, [], fs => fs
 | i, e :: l, fs => cutR kept (i + 1) l (fs.modify e.2.toNat (cutF kept i))
def crashRK (R : RD) (dirs : Int) : Nat := (IntKind.u64.wrap dirs).toNat % (R.wait.length + 1)
def crashR (R : RD) (dirs : Int) (kept : List Int) (lv : PV) : RD :=
  { R with files := cutR kept 0 (dirL R.base (R.wait.take (crashRK R dirs))) R.files
           fv := .sl none ((cutR kept 0 (dirL R.base (R.wait.take (crashRK R dirs))) R.files).map RF.v) []
           base := dirL R.base (R.wait.take (crashRK R dirs)), bv := lv, wait := [], wv := .nils, left := -1, dark := false }

def FOk (f : RF) : Prop := Sl0 1 f.bv (ofBytes f.b) ∧ 0 ≤ f.s ∧ f.s ≤ f.b.length ∧ f.b.length ≤ 4194304
theorem cutF_ok {f : RF} (h : FOk f) (kept : List Int) (i : Nat) : FOk (cutF kept i f) := by
 obtain ⟨h1, h2, h3, h4⟩ := h
 have hk := kOf_le kept i f.b f.s.toNat (by omega)
 have := (h1.slc (k := kOf kept i f.b f.s.toNat) (by simpa [ofBytes] using hk) (j := .i64)).2
 have e : (ofBytes f.b).take (kOf kept i f.b f.s.toNat) = ofBytes (f.b.take (kOf kept i f.b f.s.toNat)) := by simp [ofBytes, List.map_take]
 rw [e] at this
 exact ⟨this, by simp [cutF], by simp [cutF]; omega, by simp [cutF]; omega⟩
theorem modify_ok {P : RF → Prop} {F : RF → RF} (hF : ∀ f, P f → P (F f)) {l : List RF} {n : Nat} (h : ∀ f ∈ l, P f) : ∀ f ∈ l.modify n F, P f := by
 intro f hm
 obtain ⟨j, hj⟩ := List.getElem?_of_mem hm
 rw [List.getElem?_modify] at hj
 cases hl : l[j]? with
 | none => rw [hl] at hj; simp at hj
 | some g =>
  rw [hl] at hj
  simp only [Option.map_eq_map, Option.map_some, Option.some.injEq] at hj
  have hg := h g (List.mem_of_getElem? hl)
  split at hj
  ·subst hj; exact hF g hg
  ·subst hj; exact hg
theorem cutR_ok (kept : List Int) : ∀ (l : List RE) (i : Nat) (fs : List RF), (∀ f ∈ fs, FOk f) → (cutR kept i l fs).length = fs.length ∧ ∀ f ∈ cutR kept i l fs, FOk f
 | [], i, fs, h => ⟨rfl, h⟩
 | e :: l, i, fs, h => by
  obtain ⟨h1, h2⟩ := cutR_ok kept l (i + 1) (fs.modify e.2.toNat (cutF kept i)) (modify_ok (P := FOk) (fun f hf => cutF_ok hf kept i) h)
  exact ⟨by rw [cutR, h1]; simp, by rw [cutR]; exact h2⟩

theorem crashR_wf {R : RD} {K : Nat} (h : R.Wf K) (dirs : Int) (kept : List Int) {lv : PV} (hl : Sl0 2 lv ((dirL R.base (R.wait.take (crashRK R dirs))).map entR)) : (crashR R dirs kept lv).Wf K := by
 obtain ⟨c1, c2⟩ := cutR_ok kept (dirL R.base (R.wait.take (crashRK R dirs))) 0 R.files h.ff
 have := dirL_len (R.wait.take (crashRK R dirs)) R.base
 have hb := h.bl
 exact ⟨files_sl fun f hf => (c2 f hf).1, hl, sl0_nils 4, c2, by show (cutR _ _ _ _).length ≤ K; rw [c1]; exact h.fl, by show (dirL _ _).length + 0 ≤ K; simp at this; omega, h.rm, h.ct, by simp [crashR]⟩

theorem cutR_split (kept : List Int) : ∀ (p : List RE) (i : Nat) (l : List RE) (fs : List RF), cutR kept i (p ++ l) fs = cutR kept (i + p.length) l (cutR kept i p fs)
 | [], i, l, fs => rfl
 | e :: p, i, l, fs => by
  rw [List.cons_append, cutR, cutR_split kept p (i + 1) l, cutR, List.length_cons, show i + 1 + p.length = i + (p.length + 1) by omega]

theorem rcrash_val {R : RD} {K : Nat} (hR : R.Wf K) (hK : K ≤ 1048560) {dirs : Int} {kept : List Int} {kv : PV} (hkv : Reads1 1 kv (kept.map (.int .i64))) (hlv : ∀ e ∈ dirL R.base (R.wait.take (crashRK R dirs)), 0 ≤ e.2 ∧ e.2 < R.files.length) {S : St} :
  ∃ lv, Sl0 2 lv ((dirL R.base (R.wait.take (crashRK R dirs))).map entR) ∧ cval T 89 [R.v, .int .i64 dirs, kv] S = some ((crashR R dirs kept lv).v, S) := by
 have hK' : K ≤ 1048570 := by omega
 have hkw : crashRK R dirs ≤ R.wait.length := by have := Nat.mod_lt (IntKind.u64.wrap dirs).toNat (Nat.succ_pos R.wait.length); unfold crashRK; exact Nat.le_of_lt_succ this
 obtain ⟨lv, l1, l2⟩ := dir_val hR hK' hkw (S := ⟨S.objs ++ [[.int .i64 0, .nils, .nils, .nils, .int .i64 0, .bool false, .int .i64 0]], S.tips⟩)
 have hw' := crashR_wf hR dirs kept l2
 refine ⟨lv, l2, ?_⟩
 generalize hrr : (crashR R dirs kept lv).v = rr
 have o1 := hR.fs.one.1
 have o2 := hR.bs.one.1
 have o3 := hR.ws.one.1
 have hwl := hR.ws.len
 rw [List.length_map] at hwl
 have hm : (IntKind.u64.wrap dirs).tmod ((R.wait.length : Int) + 1) = ((crashRK R dirs : Nat) : Int) := u64_mod dirs R.wait.length
 have hne0 : ¬ (R.wait.length : Int) + 1 = 0 := by omega
 have hwb := hR.bl
 have hw1 : IntKind.i64.wrap ((R.wait.length : Int) + 1) = (R.wait.length : Int) + 1 := wrap_i64 (by omega) (by omega)
 have hw2 : IntKind.u64.wrap ((R.wait.length : Int) + 1) = (R.wait.length : Int) + 1 := by rw [u64w]; omega
 have hkl : ((crashRK R dirs : Nat) : Int) ≤ 1048570 := by omega
 have hw3 : IntKind.i64.wrap ((crashRK R dirs : Nat) : Int) = ((crashRK R dirs : Nat) : Int) := wrap_i64 (by omega) (by omega)
 refine cval_ok' fn_89 rfl ?_
 simp only [RD.v, RD.c] at l1 ⊢
 obtain ⟨L, hL⟩ : ∃ L, L = dirL R.base (R.wait.take (crashRK R dirs)) := ⟨_, rfl⟩
 rw [← hL] at l2 hlv
 have hLl : L.length ≤ 1048560 := by
  have := dirL_len (R.wait.take (crashRK R dirs)) R.base
  rw [hL]; simp at this; omega
 have hLm : L.length ≤ maxLen := by unfold maxLen; omega
 have hlen := l2.len
 rw [List.length_map] at hlen
 have hkl := hkv.len
 rw [List.length_map] at hkl
 obtain ⟨z, hz⟩ : ∃ z : List PV, z = [.int .i64 0, .nils, .nils, .nils, .int .i64 0, .bool false, .int .i64 0] := ⟨_, rfl⟩
 have hzl : z.length = 7 := by rw [hz]; rfl
 obtain ⟨F0, S1, a1, a2, a3, a4, a5, a6, a7, a8⟩ := (show GAcc S 2 ⟨S.objs ++ [z], S.tips⟩ .emp [] from ⟨.inl ⟨.inl rfl, rfl⟩, by simp⟩).app (bytes := 32) (new := R.files.map RF.v) ((Grows.refl S).objs _) (by omega) (fun e he => by
  obtain ⟨f, hf, rfl⟩ := List.mem_map.1 he
  exact ⟨rfl, (RF.v_ok (hR.ff f hf).1).2.1⟩) (by have := hR.fl; simp; omega)
 rw [List.nil_append] at a2
 have hap := hR.fs.appd ⟨S.objs ++ [z], S.tips⟩
 rw [hz] at a1 hap
 simp -implicitDefEqProofs [ref04_Crash, pstep, o1, o2, o3, part7, hwl, hw1, hw2, hm, hne0, hw3, l1, a1, hap]
 refine lp_up L.length (fun i fr S' => fr 2 = kv ∧ fr 3 = .ref R.c ∧ fr 6 = .ptr S.objs.length 0 ∧ fr 7 = lv ∧ fr 9 = .int .i64 (i : Int) ∧ Grows S S' ∧ S'.objs[S.objs.length]? = some z ∧ GAcc S 2 S' (fr 8) ((cutR kept 0 (L.take i) R.files).map RF.v) ∧ fr 8 ≠ .nils ∧ gidV (fr 8) ≠ some S.objs.length) ?_ ?_ 0 (Nat.zero_le _) _ _
  ⟨by simp, by simp [RD.c], by simp, by simp, by simp, a3, a6 _ _ (by simp) (fun e => by cases e), by simpa [cutR] using a2, by simpa using a8 (fun e => by cases e), by
   simp only [upd_at']
   intro e
   have e : gidV F0 = some S.objs.length := e
   have := a7 _ e (by simp)
   cases this⟩
 ·rintro i fr S' hi ⟨f2, f3, f6, f7, f9, hg, hz6, gA, hnn, hne⟩ kk
  have hw := wrap_up hi hLm
  have hgl := l2.reads.get i (by simpa using hi) .i64
  have hx : (L.map entR)[i]'(by simpa using hi) = entR L[i] := by simp
  rw [hx, entR_cells] at hgl
  have hb := hlv _ (List.getElem_mem hi)
  have ht : L.take (i + 1) = L.take i ++ [L[i]] := by rw [List.take_add_one, List.getElem?_eq_getElem hi]; rfl
  obtain ⟨e, he⟩ : ∃ e, e = L[i] := ⟨_, rfl⟩
  rw [← he] at hgl hb ht
  obtain ⟨m, hm0⟩ : ∃ m : Nat, e.2 = (m : Int) := ⟨e.2.toNat, by omega⟩
  obtain ⟨c1, c2⟩ := cutR_ok kept (L.take i) 0 R.files hR.ff
  obtain ⟨fs, hfs⟩ : ∃ fs, fs = cutR kept 0 (L.take i) R.files := ⟨_, rfl⟩
  rw [← hfs] at gA c1 c2
  have hml : m < fs.length := by rw [c1]; omega
  obtain ⟨f, hf⟩ : ∃ f, fs[m]? = some f := ⟨_, List.getElem?_eq_getElem hml⟩
  obtain ⟨q1, q2, q3, q4⟩ := c2 f (List.mem_of_getElem? hf)
  have hne0 : fs.map RF.v ≠ [] := by
   intro h; have : fs = [] := by simpa using h
   rw [this] at hml; simp at hml
  obtain ⟨id, i1, h8, i3⟩ := osl_get gA hne0
  have hidlt := (List.getElem?_eq_some_iff.1 i3).1
  have hido : id ≠ S.objs.length := fun h => hne (by rw [h8, h]; rfl)
  obtain ⟨r, hr⟩ := flat_dr (i := m) (fun e he => (gA.ok e he).1) (show (fs.map RF.v)[m]? = some f.v by rw [List.getElem?_map, hf]; rfl)
  rw [RF.v_cells] at hr
  have hfl := flatl (fun e he => (gA.ok e he).1)
  rw [List.length_map] at hfl
  have hload : loadP S' true 2 (.ptr id (m * 2)) = some (.agg [f.bv, .int .i64 f.s]) := by rw [loadP_ptr i3, hr]; simp [partOf]
  have hltm : ((m : Int) < (fs.length : Int)) := by omega
  have q5 := q1.len
  rw [show (ofBytes f.b).length = f.b.length by simp [ofBytes]] at q5
  -- the file, cut
  obtain ⟨n, hn⟩ : ∃ n, n = kOf kept i f.b f.s.toNat := ⟨_, rfl⟩
  have hnle : n ≤ f.b.length := by rw [hn]; exact kOf_le kept i f.b f.s.toNat (by omega)
  have hnge : f.s ≤ (n : Int) := by have := kOf_ge kept i f.b f.s.toNat; rw [← hn] at this; omega
  obtain ⟨d1, d2⟩ := q1.slc (k := n) (by simpa [ofBytes] using hnle) (j := .i64)
  have dOne := d2.one
  have hset : (fs.map RF.v).set m (RF.v (cutF kept i f)) = (fs.modify m (cutF kept i)).map RF.v := by
   apply List.ext_getElem?
   intro j
   rw [List.getElem?_map, List.getElem?_modify, List.getElem?_set]
   by_cases hj : m = j
   ·subst hj
    have : fs[m] = f := by
     have := hf; rw [List.getElem?_eq_getElem hml] at this; cases this; rfl
    simp [hml, this]
   ·simp [hj]
  have hcut : cutF kept i f = ⟨slcV f.bv n, f.b.take n, (n : Int)⟩ := by rw [hn]; rfl
  have hput := flat_set1 (i := m) (e' := RF.v (cutF kept i f)) (fun e he => (gA.ok e he).1) (show (fs.map RF.v)[m]? = some f.v by rw [List.getElem?_map, hf]; rfl) rfl (j := 0) (c := [slcV f.bv n, .int .i64 (n : Int)]) (by simp) (by rw [hcut]; rfl)
  rw [hset, Nat.add_zero] at hput
  obtain ⟨cs', hcs'⟩ : ∃ cs', cs' = ((fs.modify m (cutF kept i)).map RF.v).flatMap PV.cells := ⟨_, rfl⟩
  have c2' : ∀ g ∈ fs.modify m (cutF kept i), FOk g := modify_ok (P := FOk) (fun f hf => cutF_ok hf kept i) c2
  have next : ∀ (fr' : Fr) (x : List PV), fr' 2 = kv → fr' 3 = .ref R.c → fr' 6 = .ptr S.objs.length 0 → fr' 7 = lv → fr' 9 = .int .i64 ((i : Int) + 1) → fr' 8 = fr 8 → Ok (gval T (.lp ref04_Crash_l0 :: .blk 0 :: [.code (.seq (.clr [(79, 86)] (.region ref04_Crash_r11)) .ret)]) fr' ⟨(S'.objs ++ [x]).set id cs', S'.tips⟩) (Ends [.cell 6 true 7] false S rr S) := by
   intro fr' x g2 g3 g6 g7 g9 g8
   have hL2 : (S'.objs ++ [x])[id]? = some ((fs.map RF.v).flatMap PV.cells) := by rw [List.getElem?_append_left hidlt]; exact i3
   refine kk fr' _ ⟨g2, g3, g6, g7, by simpa using g9, ?_, ?_, ?_, by rw [g8]; exact hnn, by rw [g8]; exact hne⟩
   ·obtain ⟨o, tt, rfl⟩ := hg
    exact ⟨(o ++ [x]).set (id - S.objs.length) cs', tt, by simp only [St.mk.injEq, and_true]; rw [List.append_assoc, List.set_append_right _ _ i1]⟩
   ·simp only
    rw [List.getElem?_set_ne hido, List.getElem?_append_left (List.getElem?_eq_some_iff.1 hz6).1]
    exact hz6
   ·rw [ht, cutR_split]
    simp only [cutR, List.length_take, Nat.zero_add, Nat.min_eq_left (Nat.le_of_lt hi), ← hfs]
    have hmm : e.2.toNat = m := by omega
    rw [hmm, g8, h8]
    refine ⟨.inr ⟨id, i1, by simp, by simp only; rw [hcs']; exact get_set hL2, ?_⟩, fun e he => ?_⟩
    ·intro h
     have := congrArg List.length h
     simp at this
     rw [this] at hml; simp at hml
    ·obtain ⟨g, hg', rfl⟩ := List.mem_map.1 he
     exact ⟨rfl, (RF.v_ok (c2' g hg').1).2.1⟩
  clear kk
  have hle2 : m * 2 + 2 ≤ ((fs.map RF.v).flatMap PV.cells).length := by rw [hfl]; omega
  have i3' : ∀ x : List PV, (S'.objs ++ [x])[id]? = some ((fs.map RF.v).flatMap PV.cells) := fun x => by rw [List.getElem?_append_left hidlt]; exact i3
  rw [hm0] at hgl
  have hput2 : List.take (m * 2) ((fs.map RF.v).flatMap PV.cells) ++ slcV f.bv n :: PV.int .i64 (n : Int) :: List.drop (m * 2 + 2) ((fs.map RF.v).flatMap PV.cells) = cs' := by
   rw [hcs', ← hput]; simp [putCells]
  have w1 : IntKind.i64.wrap ((f.b.length : Int) - f.s) = (f.b.length : Int) - f.s := wrap_i64 (by omega) (by omega)
  have w2 : IntKind.i64.wrap ((f.b.length : Int) - f.s + 1) = (f.b.length : Int) - f.s + 1 := wrap_i64 (by omega) (by omega)
  rw [gval_lp]
  by_cases hik : i < kept.length
  ·have hgk := hkv.get i (by simpa using hik) .i64
   have hkx : (kept.map (PV.int .i64))[i]'(by simpa using hik) = .int .i64 kept[i] := by simp
   rw [hkx, cells_int] at hgk
   have hkof : n = f.s.toNat + (IntKind.u64.wrap kept[i]).toNat % (f.b.length - f.s.toNat + 1) := by rw [hn, kOf, dif_pos hik]
   obtain ⟨x, hx⟩ : ∃ x, x = (IntKind.u64.wrap kept[i]).toNat % (f.b.length - f.s.toNat + 1) := ⟨_, rfl⟩
   rw [← hx] at hkof
   have w3 : IntKind.u64.wrap ((f.b.length : Int) - f.s + 1) = ((f.b.length - f.s.toNat : Nat) : Int) + 1 := by rw [u64w]; omega
   have w4 : (IntKind.u64.wrap kept[i]).tmod (((f.b.length - f.s.toNat : Nat) : Int) + 1) = (x : Int) := by rw [hx]; exact u64_mod kept[i] (f.b.length - f.s.toNat)
   have w5 : IntKind.i64.wrap (x : Int) = (x : Int) := wrap_i64 (by omega) (by omega)
   have w6 : IntKind.i64.wrap (f.s + (x : Int)) = (n : Int) := by rw [show f.s + (x : Int) = (n : Int) by omega]; exact wrap_i64 (by omega) (by omega)
   have w7 : ¬ (((f.b.length - f.s.toNat : Nat) : Int) + 1 = 0) := by omega
   have hik' : ((i : Int) < (kept.length : Int)) := by omega
   obtain ⟨y, hy⟩ : ∃ y : Nat, y = f.b.length - f.s.toNat := ⟨_, rfl⟩
   rw [← hy] at w3 w4 w7
   simp -implicitDefEqProofs [-List.length_flatMap, f2, f3, f6, f7, f9, h8, hlen, hi, hgl, hltm, hload, pstep, putCells, q1.one.1, hkl, hik, hik', hgk, q5, w1, w2, w3, w4, w5, w6, w7, d1, peval, fillParts, dOne.1, dOne.2, i3', hle2, hput]
   rw [hput2]
   exact next _ _ (by simp [f2]) (by simp [f3]) (by simp [f6]) (by simp [f7]) (by simp [hw]) (by simp)
  ·have hkof : n = f.s.toNat := by rw [hn, kOf, dif_neg hik]
   have w8 : IntKind.i64.wrap f.s = (n : Int) := by rw [show f.s = (n : Int) by omega]; exact wrap_i64 (by omega) (by omega)
   have hik' : ¬ ((i : Int) < (kept.length : Int)) := by omega
   simp -implicitDefEqProofs [-List.length_flatMap, f2, f3, f6, f7, f9, h8, hlen, hi, hgl, hltm, hload, pstep, putCells, q1.one.1, hkl, hik, hik', q5, w1, w2, w8, d1, peval, fillParts, dOne.1, dOne.2, i3', hle2, hput]
   rw [hput2]
   exact next _ _ (by simp [f2]) (by simp [f3]) (by simp [f6]) (by simp [f7]) (by simp [hw]) (by simp)
 ·rintro fr S' ⟨f2, f3, f6, f7, f9, hg, hz6, gA, hnn, hne⟩
  rw [List.take_length] at gA
  obtain ⟨F, hF⟩ : ∃ F, F = fr 8 := ⟨_, rfl⟩
  rw [← hF] at gA hnn hne
  obtain ⟨c1, c2⟩ := cutR_ok kept L 0 R.files hR.ff
  have oF : F.one = true ∧ F.cells = [F] := by
   rcases gA.acc with ⟨hv | hv, _⟩ | ⟨id, _, hv, _⟩ <;> subst hv <;> exact ⟨rfl, rfl⟩
  have tF : Tel S S' [S.objs.length] F (.sl none ((cutR kept 0 L R.files).map RF.v) []) := by
   refine gacc_tel gA (by omega) (fun i hi => by
    simp only [List.mem_singleton]
    intro e; rw [e] at hi; exact hne hi) hnn (fun f hf objs' _ k => mapO_free' ?_) (fun f hf => ⟨_, rfl, rfl⟩)
   have := (RF.v_ok (c2 f hf).1).2.2.1
   simpa [RF.v, PV.free] using this
  have hlo := l2.one
  have e1 : (S'.objs.set S.objs.length [.int .i64 R.room, F, lv, .nils, .int .i64 (-1), .bool false, .int .i64 R.count])[S.objs.length]? = some [.int .i64 R.room, F, lv, .nils, .int .i64 (-1), .bool false, .int .i64 R.count] := get_set hz6
  have hfin : finish false S ⟨S'.objs.set S.objs.length [.int .i64 R.room, F, lv, .nils, .int .i64 (-1), .bool false, .int .i64 R.count], S'.tips⟩ (.agg [.int .i64 R.room, F, lv, .nils, .int .i64 (-1), .bool false, .int .i64 R.count]) = (rr, S) := by
   rw [fin_grows (r' := (crashR R dirs kept lv).v) ?_ ?_]
   ·rw [hw'.frz, hrr]
   ·obtain ⟨o, tt, rfl⟩ := hg
    exact ⟨o.set 0 _, tt, by simp only [St.mk.injEq, and_true]; rw [List.set_append_right _ _ (Nat.le_refl _), Nat.sub_self]⟩
   ·refine sol_agg (k := 38) ?_
    have s1 := tF (S'.objs.set S.objs.length [.int .i64 R.room, F, lv, .nils, .int .i64 (-1), .bool false, .int .i64 R.count]) (fun i x hi hx => by
     simp only [List.mem_singleton] at hi
     rw [List.getElem?_set_ne (Ne.symm hi)]; exact hx) 36
    have s3 : ∀ {v : PV}, v.free = true → sol (S'.objs.set S.objs.length [.int .i64 R.room, F, lv, .nils, .int .i64 (-1), .bool false, .int .i64 R.count]) S.objs.length 39 v = some v := fun h => sol_id h
    simp only [mapO, s1, s3 l2.free, s3 (v := .int .i64 _) rfl, s3 (v := .bool _) rfl, s3 (v := .nils) rfl]
    simp only [crashR, RD.c, ← hL]
  rw [gval_lp]
  have hz7 : z.drop 7 = [] := List.drop_of_length_le (by omega)
  simp -implicitDefEqProofs [f3, f6, f7, f9, hlen, RD.c, ← hF, pstep, peval, fillParts, putCells, oF.1, oF.2, hlo.1, hlo.2, hz6, hzl, hz7]
  exact ends_c (by simp [f6, loadP_ptr (S := ⟨_, S'.tips⟩) e1, part7] <;> rfl) hfin
end Ps
namespace Ps
set_option linter.unusedSimpArgs false
set_option linter.unusedVariables false
open Go
theorem blt_iff {a b : List UInt8} : Op.bytesLess a b = true ↔ a < b := by
 induction a generalizing b with
 | nil => cases b <;> simp [Op.bytesLess]
 | cons x a ih => cases b with
  | nil => simp [Op.bytesLess]
  | cons y b => simp [Op.bytesLess, ih, List.cons_lt_cons_iff]

abbrev Srt (M : List RE) : Prop := M.Pairwise fun a b => a.1 < b.1

theorem withR_true (e : RE) : ∀ l : List RE, withR e true l = withoutR e.1 l
 | [] => rfl
 | x :: l => by
  simp only [withR, Bool.not_true, Bool.false_and, Bool.false_eq_true, if_false, List.nil_append, Bool.true_or, withR_true e l]
  unfold withoutR
  cases h : (x.1 == e.1) <;> simp [h]
theorem withR_mem (e : RE) : ∀ (l : List RE) (x : RE), x ∈ withR e false l → x = e ∨ x ∈ l
 | [], x, h => by simp [withR] at h; exact .inl h
 | y :: l, x, h => by
  simp only [withR, Bool.not_false, Bool.true_and, Bool.false_or] at h
  cases hb : Op.bytesLess e.1 y.1 with
  | true =>
   rw [hb, withR_true] at h
   simp only [if_true, List.mem_append, List.mem_cons, List.not_mem_nil, or_false] at h
   rcases h with h | h | h
   ·exact .inl h
   ·split at h
    ·simp at h; exact .inr (by simp [h])
    ·cases h
   ·exact .inr (List.mem_cons_of_mem _ (List.mem_filter.1 h).1)
  | false =>
   rw [hb] at h
   simp only [Bool.false_eq_true, if_false, List.nil_append, List.mem_append] at h
   rcases h with h | h
   ·split at h
    ·simp at h; exact .inr (by simp [h])
    ·cases h
   ·rcases withR_mem e l x h with h | h
    ·exact .inl h
    ·exact .inr (List.mem_cons_of_mem _ h)

theorem withR_ok (e : RE) : ∀ l : List RE, Srt l → Srt (withR e false l) ∧ (withR e false l).Perm (e :: withoutR e.1 l)
 | [], _ => by simp [withR, withoutR, Srt]
 | x :: l, h => by
  have h1 := (List.pairwise_cons.1 h).1
  obtain ⟨i1, i2⟩ := withR_ok e l (List.pairwise_cons.1 h).2
  simp only [withR, Bool.not_false, Bool.true_and, Bool.false_or]
  cases hb : Op.bytesLess e.1 x.1 with
  | true =>
   have hlt := blt_iff.1 hb
   have hne : (x.1 == e.1) = false := by
    rw [beq_eq_false_iff_ne]; intro k; rw [k] at hlt; exact List.lt_irrefl _ hlt
   rw [withR_true]
   have e1 : ([e] ++ ([x] ++ withoutR e.1 l)) = e :: withoutR e.1 (x :: l) := by simp [withoutR, hne]
   simp only [hne, Bool.not_false, if_true]
   rw [e1]
   refine ⟨List.pairwise_cons.2 ⟨?_, h.filter _⟩, .refl _⟩
   intro y hy
   rcases List.mem_cons.1 (List.mem_filter.1 hy).1 with hy | hy
   ·rw [hy]; exact hlt
   ·exact List.lt_trans hlt (h1 y hy)
  | false =>
   simp only [Bool.false_eq_true, if_false, List.nil_append]
   cases hx : (x.1 == e.1) with
   | true =>
    refine ⟨by simpa using i1, ?_⟩
    simpa [withoutR, hx] using i2
   | false =>
    have hnl : ¬ e.1 < x.1 := fun k => by rw [blt_iff.2 k] at hb; cases hb
    have hle : x.1 < e.1 := by
     by_cases k : x.1 < e.1
     ·exact k
     ·have : x.1 = e.1 := List.le_antisymm (List.not_lt.1 hnl) (List.not_lt.1 k)
      rw [this] at hx; simp at hx
    simp only [Bool.not_false, if_true, List.singleton_append]
    refine ⟨List.pairwise_cons.2 ⟨?_, i1⟩, ?_⟩
    ·intro y hy
     rcases withR_mem e l y hy with hy | hy
     ·rw [hy]; exact hle
     ·exact h1 y hy
    ·have e1 : withoutR e.1 (x :: l) = x :: withoutR e.1 l := by simp [withoutR, hx]
     rw [e1]
     exact (i2.cons x).trans (List.Perm.swap _ _ _)

def mp (φ : Nat → Int) (l : List (Nm × Nat)) : List RE := l.map fun p => (p.1, φ p.2)
def DR (φ : Nat → Int) (l : List (Nm × Nat)) (M : List RE) : Prop := (mp φ l).Perm M ∧ Srt M

theorem DR.nd {φ : Nat → Int} {l : List (Nm × Nat)} {M : List RE} (h : DR φ l M) : l.Pairwise fun a b => a.1 ≠ b.1 := by
 have h2 : M.Pairwise fun a b => a.1 ≠ b.1 := h.2.imp fun k e => by rw [e] at k; exact List.lt_irrefl _ k
 have h3 := (h.1.pairwise_iff (R := fun a b : RE => a.1 ≠ b.1) (fun k => Ne.symm k)).2 h2
 unfold mp at h3
 exact (List.pairwise_map (f := fun p : Nm × Nat => (p.1, φ p.2)) (R := fun a b : RE => a.1 ≠ b.1)).1 h3

theorem put_perm (k : Nm) (f : Nat) : ∀ l : List (Nm × Nat), (put k f l).Perm ((k, f) :: del k l)
 | [] => .refl _
 | (q, u) :: l => by
  simp only [put, del]
  split
  ·exact .refl _
  ·exact ((put_perm k f l).cons _).trans (List.Perm.swap _ _ _)
theorem del_filter (k : Nm) : ∀ l : List (Nm × Nat), l.Pairwise (fun a b => a.1 ≠ b.1) → del k l = l.filter fun p => !(p.1 == k)
 | [], _ => rfl
 | (q, u) :: l, h => by
  obtain ⟨h1, h2⟩ := List.pairwise_cons.1 h
  simp only [del]
  by_cases e : (k == q) = true
  ·have e' : k = q := by simpa using e
   subst e'
   have : (l.filter fun p => !(p.1 == k)) = l := by
    rw [List.filter_eq_self]
    intro p hp
    have := h1 p hp
    simp only [Bool.not_eq_true', beq_eq_false_iff_ne]
    exact Ne.symm this
   simp [this]
  ·have e' : (q == k) = false := by
    rw [beq_eq_false_iff_ne]; intro x; exact e (by simp [x])
   simp [e, e', del_filter k l h2]
theorem DR.del {φ : Nat → Int} {l : List (Nm × Nat)} {M : List RE} (h : DR φ l M) (k : Nm) : DR φ (del k l) (withoutR k M) := by
 refine ⟨?_, h.2.filter _⟩
 rw [del_filter k l h.nd]
 have : mp φ (l.filter fun p => !(p.1 == k)) = withoutR k (mp φ l) := by
  unfold mp withoutR
  rw [List.filter_map]; rfl
 rw [this]
 exact h.1.filter _
theorem DR.put {φ : Nat → Int} {l : List (Nm × Nat)} {M : List RE} (h : DR φ l M) (k : Nm) (f : Nat) : DR φ (put k f l) (withR (k, φ f) false M) := by
 obtain ⟨h1, h2⟩ := withR_ok (k, φ f) M h.2
 refine ⟨?_, h1⟩
 refine List.Perm.trans ?_ h2.symm
 have : (mp φ (Ps.put k f l)).Perm (mp φ ((k, f) :: Ps.del k l)) := (put_perm k f l).map _
 exact this.trans ((h.del k).1.cons _)
theorem atR_mem {n : Nm} {x : Int} : ∀ {M : List RE}, M.Pairwise (fun a b => a.1 ≠ b.1) → (n, x) ∈ M → atR n M = x
 | (q, f) :: l, h, hm => by
  obtain ⟨h1, h2⟩ := List.pairwise_cons.1 h
  simp only [atR]
  rcases List.mem_cons.1 hm with hm | hm
  ·cases hm; simp
  ·have : (q == n) = false := by
    rw [beq_eq_false_iff_ne]; exact h1 _ hm
   simp only [this, Bool.false_eq_true, if_false]
   exact atR_mem h2 hm
theorem atR_none {n : Nm} : ∀ {M : List RE}, (∀ e ∈ M, e.1 ≠ n) → atR n M = -1
 | [], _ => rfl
 | (q, f) :: l, h => by
  have : (q == n) = false := by
   rw [beq_eq_false_iff_ne]; exact h (q, f) (by simp)
  simp only [atR, this, Bool.false_eq_true, if_false]
  exact atR_none fun e he => h e (by simp [he])
theorem lk_none {k : Nm} : ∀ {l : List (Nm × Nat)}, lk k l = none → ∀ p ∈ l, p.1 ≠ k
 | [], _, p, hp => by cases hp
 | (q, f) :: l, h, p, hp => by
  simp only [lk] at h
  split at h
  ·cases h
  ·rename_i e
   rcases List.mem_cons.1 hp with hp | hp
   ·subst hp; intro x; exact e (by simp [← x])
   ·exact lk_none h p hp
theorem DR.at {φ : Nat → Int} {l : List (Nm × Nat)} {M : List RE} (h : DR φ l M) (n : Nm) : atR n M = match lk n l with | some f => φ f | none => -1 := by
 have h2 : M.Pairwise fun a b => a.1 ≠ b.1 := h.2.imp fun k e => by rw [e] at k; exact List.lt_irrefl _ k
 cases hl : lk n l with
 | some f =>
  have := lk_mem hl
  exact atR_mem h2 (h.1.mem_iff.1 (List.mem_map.2 ⟨(n, f), this, rfl⟩))
 | none =>
  refine atR_none fun e he => ?_
  obtain ⟨p, hp, rfl⟩ := List.mem_map.1 (h.1.mem_iff.2 he)
  exact lk_none hl p hp

def stepOf (φ : Nat → Int) (x : Ent) : RS := match x.2.2 with | some f => ⟨1, x.2.1, [], φ f⟩ | none => if x.2.1 = [] then ⟨3, x.1, [], 0⟩ else ⟨2, x.1, x.2.1, 0⟩

theorem DR.doE {φ : Nat → Int} {l : List (Nm × Nat)} {M : List RE} (h : DR φ l M) (x : Ent) (hx : okE x l) (hn : x.2.2 ≠ none → x.2.1 ≠ []) : DR φ (Ps.doE x l) (stepDir M (stepOf φ x)) := by
 obtain ⟨a, b, c⟩ := x
 cases c with
 | some f =>
  have hb : b ≠ [] := hn (by simp)
  simp only [Ps.doE, hb, if_false, stepOf, stepDir, if_true]
  exact h.put b f
 | none =>
  obtain ⟨f, hf⟩ := Option.isSome_iff_exists.1 (hx rfl)
  simp only at hf
  by_cases hb : b = []
  ·subst hb
   simp only [Ps.doE, hf, if_true, stepOf, stepDir]
   simpa using h.del a
  ·simp only [Ps.doE, hf, hb, if_false, stepOf, stepDir]
   have ha := h.at a
   rw [hf] at ha
   simp only at ha
   simp only [ha]
   simpa using (h.del a).put b f
theorem DR.doA {φ : Nat → Int} : ∀ (ws : List Ent) {l : List (Nm × Nat)} {M : List RE}, DR φ l M → okA ws l → (∀ x ∈ ws, x.2.2 ≠ none → x.2.1 ≠ []) → DR φ (doA ws l) (dirL M (ws.map (stepOf φ)))
 | [], l, M, h, _, _ => h
 | x :: ws, l, M, h, ho, hn => by
  simp only [Ps.doA, List.map_cons, dirL, List.foldl_cons]
  exact DR.doA ws (h.doE x ho.1 (hn x (by simp))) ho.2 fun y hy => hn y (by simp [hy])

theorem DR.len {φ : Nat → Int} {l : List (Nm × Nat)} {M : List RE} (h : DR φ l M) : M.length = l.length := by
 rw [← h.1.length_eq]; simp [mp]
theorem DR.congr {φ ψ : Nat → Int} {l : List (Nm × Nat)} {M : List RE} (h : DR φ l M) (he : ∀ p ∈ l, φ p.2 = ψ p.2) : DR ψ l M := by
 refine ⟨?_, h.2⟩
 have : mp ψ l = mp φ l := List.map_congr_left fun p hp => by rw [he p hp]
 rw [this]; exact h.1
theorem DR.nil (φ : Nat → Int) : DR φ [] [] := ⟨.refl _, .nil⟩

theorem DR.sort {φ : Nat → Int} {l : List (Nm × Nat)} {M : List RE} (h : DR φ l M) : sortN l = M.map (·.1) := by
 have hp : (l.map (·.1)).Perm (M.map (·.1)) := by
  have := h.1.map (·.1)
  unfold mp at this
  rw [List.map_map] at this
  exact this
 unfold sortN
 have h1 : (l.map (·.1)).mergeSort leB = (M.map (·.1)).mergeSort leB := mergeSort_of_perm hp
 rw [h1]
 refine List.mergeSort_of_pairwise ?_
 rw [List.pairwise_map]
 exact h.2.imp fun k => by simpa [leB] using List.le_of_lt k
end Ps
