/- The document's disk: Live, step, List, Read, Fuse, New. -/
import Derived.Test.YtidloidlffjimaaGB
namespace Ps
set_option linter.unusedSimpArgs false
set_option linter.unusedVariables false
open Go
structure RS where
 kind : Int
 name : Nm
 to : Nm
 file : Int
def RS.v (s : RS) : PV := .agg [.int .i64 s.kind, .str s.name, .str s.to, .int .i64 s.file]
@[simp] theorem RS.v_cells (s : RS) : s.v.cells = [.int .i64 s.kind, .str s.name, .str s.to, .int .i64 s.file] := rfl
structure RF where
 bv : PV
 b : List UInt8
 s : Int
def RF.v (f : RF) : PV := .agg [f.bv, .int .i64 f.s]
@[simp] theorem RF.v_cells (f : RF) : f.v.cells = [f.bv, .int .i64 f.s] := rfl
structure RD where
 room : Int
 fv : PV
 files : List RF
 bv : PV
 base : List RE
 wv : PV
 wait : List RS
 left : Int
 dark : Bool
 count : Int
def RD.c (R : RD) : List PV := [.int .i64 R.room, R.fv, R.bv, R.wv, .int .i64 R.left, .bool R.dark, .int .i64 R.count]
def RD.v (R : RD) : PV := .agg R.c
@[simp] theorem RD.v_cells (R : RD) : R.v.cells = R.c := rfl

structure RD.Wf (R : RD) (K : Nat) : Prop where
 fs : Sl0 2 R.fv (R.files.map RF.v)
 bs : Sl0 2 R.bv (R.base.map entR)
 ws : Sl0 4 R.wv (R.wait.map RS.v)
 ff : ∀ f ∈ R.files, Sl0 1 f.bv (ofBytes f.b) ∧ 0 ≤ f.s ∧ f.s ≤ f.b.length ∧ f.b.length ≤ 4194304
 fl : R.files.length ≤ K
 bl : R.base.length + R.wait.length ≤ K
 rm : 1 ≤ R.room ∧ R.room ≤ 4194304
 ct : 0 ≤ R.count ∧ R.count ≤ K
 lf : -1 ≤ R.left ∧ R.left ≤ 9223372036854775807

theorem RD.Wf.free {R : RD} {K : Nat} (h : R.Wf K) : R.v.free = true := by simp [RD.v, RD.c, PV.free, PV.freeL, h.fs.free, h.bs.free, h.ws.free]
theorem RD.Wf.frz {R : RD} {K : Nat} (h : R.Wf K) : R.v.frz = R.v := by simp [RD.v, RD.c, PV.frz, PV.frzL, h.fs.frz, h.bs.frz, h.ws.frz]
theorem RD.Wf.one {R : RD} {K : Nat} (h : R.Wf K) : R.c.all PV.one = true := by simp [RD.c, h.fs.one.1, h.bs.one.1, h.ws.one.1]
def stepDir (l : List RE) (s : RS) : List RE :=
 if s.kind = 1 then withR (s.name, s.file) false l
 else if s.kind = 2 then withR (s.to, atR s.name l) false (withoutR s.name l)
 else if s.kind = 3 then withoutR s.name l else l
def dirL (base : List RE) (ws : List RS) : List RE := ws.foldl stepDir base

theorem withoutR_len (n : Nm) (l : List RE) : (withoutR n l).length ≤ l.length := List.length_filter_le _ _
theorem stepDir_len (l : List RE) (s : RS) : (stepDir l s).length ≤ l.length + 1 := by
 unfold stepDir
 have h1 := withR_len (s.name, s.file) false l
 have h2 := withR_len (s.to, atR s.name l) false (withoutR s.name l)
 have h3 := withoutR_len s.name l
 simp at h1 h2
 split
 ·omega
 ·split
  ·omega
  ·split <;> omega
theorem dirL_len : ∀ (ws : List RS) (base : List RE), (dirL base ws).length ≤ base.length + ws.length
 | [], base => by simp [dirL]
 | s :: ws, base => by
  have := dirL_len ws (stepDir base s)
  have h2 := stepDir_len base s
  simp only [dirL, List.foldl_cons, List.length_cons] at this ⊢
  omega
theorem dirL_snoc (base : List RE) (ws : List RS) (s : RS) : dirL base (ws ++ [s]) = stepDir (dirL base ws) s := by simp [dirL, List.foldl_append]

theorem without_pval {l : List RE} {v : PV} (hv : Reads1 2 v (l.map entR)) (hl : l.length ≤ 1048576) {n : Nm} : ∃ v', pval T 296 [v, .str n] = some v' ∧ Sl0 2 v' ((withoutR n l).map entR) := by
 obtain ⟨v', h1, h2⟩ := without_val hv hl (n := n) (S := St0)
 exact ⟨v', pval_st h1 h2.free h2.frz, h2⟩

theorem part4 {a b c d : PV} {l : List PV} : partOf true 4 (a :: b :: c :: d :: l) = some (.agg [a, b, c, d]) := by simp [partOf]
theorem part7 {a b c d e f g : PV} : partOf true 7 [a, b, c, d, e, f, g] = some (.agg [a, b, c, d, e, f, g]) := rfl
@[simp] theorem sel_ob {c : Bool} {x : PV} : sel c (some x) = some (gd c x) := sel_some c x

theorem dir_val {R : RD} {K : Nat} (h : R.Wf K) (hK : K ≤ 1048570) {k : Nat} (hk : k ≤ R.wait.length) {S : St} : ∃ v', cval T 207 [R.v, .int .i64 (k : Int)] S = some (v', S) ∧ Sl0 2 v' ((dirL R.base (R.wait.take k)).map entR) := by
 have hkm : k ≤ maxLen := by have := h.bl; unfold maxLen; omega
 have hbl := h.bl
 obtain ⟨r, S2, h1, h2, h3⟩ := cval_ex (T := T) fn_207 (args := [R.v, .int .i64 (k : Int)]) (S := S) rfl (R := fun r S2 => S2 = S ∧ Sl0 2 r ((dirL R.base (R.wait.take k)).map entR)) (by
  simp -implicitDefEqProofs [ref04_Dir, pstep, h.one]
  simp -implicitDefEqProofs [RD.c]
  refine lp_up k (fun i fr S' => fr 1 = .int .i64 (k : Int) ∧ fr 2 = .ref R.c ∧ fr 6 = .int .i64 (i : Int) ∧ Grows S S' ∧ Sl0 2 (fr 5) ((dirL R.base (R.wait.take i)).map entR)) ?_ ?_ 0 (Nat.zero_le _) _ _ ⟨by simp, by simp [RD.c], by simp, Grows.refl S, by simpa [dirL] using h.bs⟩
  ·rintro i fr S' hi ⟨f1, f2, f6, hg, hs⟩ kk
   have hw := wrap_up hi hkm
   have hiw : i < R.wait.length := by omega
   have hgw := h.ws.reads.get i (by simpa using hiw) .i64
   have hx : (R.wait.map RS.v)[i]'(by simpa using hiw) = R.wait[i].v := by simp
   rw [hx, RS.v_cells] at hgw
   have ht : R.wait.take (i + 1) = R.wait.take i ++ [R.wait[i]] := by rw [List.take_add_one, List.getElem?_eq_getElem hiw]; rfl
   obtain ⟨s, hs0⟩ : ∃ s, s = R.wait[i] := ⟨_, rfl⟩
   rw [← hs0] at hgw ht
   obtain ⟨l, hl0⟩ : ∃ l, l = dirL R.base (R.wait.take i) := ⟨_, rfl⟩
   rw [← hl0] at hs
   have hll : l.length ≤ 1048576 := by
    have := dirL_len (R.wait.take i) R.base
    rw [hl0]; simp at this; omega
   have hL : ∀ (fr' : Fr) (S1 : St), fr' 1 = .int .i64 (k : Int) → fr' 2 = .ref R.c → fr' 6 = .int .i64 ((i : Int) + 1) → Grows S S1 → Sl0 2 (fr' 5) ((stepDir l s).map entR) → Ok (gval T (.lp ref04_Dir_l0 :: .blk 0 :: [.code (.seq (.clr [(53, 54)] (.region ref04_Dir_r14)) .ret)]) fr' S1) (fun fr S1 => (finish false S S1 (fr 4)).2 = S ∧ Sl0 2 (finish false S S1 (fr 4)).1 ((dirL R.base (R.wait.take k)).map entR)) := by
    intro fr' S1 g1 g2 g6 gg g5
    refine kk fr' S1 ⟨g1, g2, by simpa using g6, gg, ?_⟩
    rw [ht, dirL_snoc, ← hl0]; exact g5
   clear kk
   have hlk : ((i : Int) < (k : Int)) := by omega
   obtain ⟨kind, name, to, file⟩ := s
   simp only at hgw
   rw [gval_lp]
   by_cases e1 : kind = 1
   ·subst e1
    obtain ⟨v', w1, w2⟩ := with_val hs.reads hll (x := (name, file)) (S := ⟨S'.objs ++ [[.int .i64 1, .str name, .str to, .int .i64 file]], S'.tips⟩)
    simp only [entR] at w1
    simp -implicitDefEqProofs [f1, f2, f6, RD.c, hlk, hi, hgw, part4, pstep, putCells, peval, fillParts, partOf, w1]
    exact hL _ _ (by simp [f1]) (by simp [f2, RD.c]) (by simp [hw]) (hg.objs _) (by simpa [stepDir] using w2)
   ·have e1' : (kind == 1) = false := by simpa using e1
    by_cases e2 : kind = 2
    ·subst e2
     have a1 := at_val hs.reads (by unfold maxLen; omega : l.length ≤ maxLen) (n := name) (S := ⟨S'.objs ++ [[.int .i64 2, .str name, .str to, .int .i64 file]], S'.tips⟩)
     obtain ⟨v1, b1, b2⟩ := without_pval hs.reads hll (n := name)
     have hb3 := withoutR_len name l
     obtain ⟨v', w1, w2⟩ := with_val b2.reads (by omega) (x := (to, atR name l)) (S := ⟨S'.objs ++ [[.int .i64 2, .str name, .str to, .int .i64 file]], S'.tips⟩)
     simp only [entR] at w1
     simp -implicitDefEqProofs [f1, f2, f6, RD.c, hlk, hi, hgw, part4, pstep, putCells, peval, fillParts, partOf, a1, hs.free, hs.frz, b1, w1]
     exact hL _ _ (by simp [f1]) (by simp [f2, RD.c]) (by simp [hw]) (hg.objs _) (by simpa [stepDir] using w2)
    ·have e2' : (kind == 2) = false := by simpa using e2
     by_cases e3 : kind = 3
     ·subst e3
      obtain ⟨v1, b1, b2⟩ := without_val hs.reads hll (n := name) (S := ⟨S'.objs ++ [[.int .i64 3, .str name, .str to, .int .i64 file]], S'.tips⟩)
      simp -implicitDefEqProofs [f1, f2, f6, RD.c, hlk, hi, hgw, part4, pstep, putCells, peval, fillParts, partOf, b1]
      exact hL _ _ (by simp [f1]) (by simp [f2, RD.c]) (by simp [hw]) (hg.objs _) (by simpa [stepDir] using b2)
     ·have e3' : (kind == 3) = false := by simpa using e3
      simp -implicitDefEqProofs [f1, f2, f6, RD.c, hlk, hi, hgw, part4, pstep, putCells, peval, fillParts, partOf, e1', e2', e3']
      exact hL _ _ (by simp [f1]) (by simp [f2, RD.c]) (by simp [hw]) (hg.objs _) (by simpa [stepDir, e1, e2, e3] using hs)
  ·rintro fr S' ⟨f1, f2, f6, hg, hs⟩
   rw [gval_lp]
   simp -implicitDefEqProofs [f1, f2, f6]
   rw [fin_free hg hs.free, hs.frz]
   exact ⟨rfl, hs⟩)
 subst h2
 exact ⟨r, h1, h3⟩
end Ps
namespace Ps
set_option linter.unusedSimpArgs false
set_option linter.unusedVariables false
open Go
theorem fn_87 : T.fn 87 = some (.code ref04_Read) := rfl
theorem fn_88 : T.fn 88 = some (.code ref04_Fuse) := rfl
theorem fn_92 : T.fn 92 = some (.code ref04_List) := rfl
theorem fn_17 : T.fn 17 = some (.code ref04_New) := rfl

def liveR (R : RD) : List RE := dirL R.base R.wait

theorem live_val {R : RD} {K : Nat} (h : R.Wf K) (hK : K ≤ 1048570) {S : St} : ∃ v', cval T 204 [R.v] S = some (v', S) ∧ Sl0 2 v' ((liveR R).map entR) := by
 obtain ⟨v', h1, h2⟩ := dir_val h hK (Nat.le_refl _) (S := S)
 rw [List.take_length] at h2
 refine ⟨v', ?_, h2⟩
 have hl := h.ws.len
 rw [List.length_map] at hl
 simp only [RD.v, RD.c] at h1
 have h1 : cval T 207 [.agg [.int .i64 R.room, R.fv, R.bv, R.wv, .int .i64 R.left, .bool R.dark, .int .i64 R.count], .int .i64 (R.wait.length : Int)] S = some (v', S) := h1
 refine cval_ok' fn_204 rfl ?_
 simp -implicitDefEqProofs [ref04_Live, pstep, h.one]
 simp -implicitDefEqProofs [RD.c, part7, hl, h1]
 rw [fin_free (Grows.refl S) h2.free, h2.frz]

theorem liveR_len {R : RD} {K : Nat} (h : R.Wf K) : (liveR R).length ≤ K := by
 have := dirL_len R.wait R.base
 have := h.bl
 unfold liveR; omega

def stepE (R : RD) : Int := if R.dark || R.left == 0 then 6 else 0
def stepRD (R : RD) : RD := if R.dark || R.left == 0 then { R with dark := true } else { R with left := if R.left > 0 then R.left - 1 else R.left, count := R.count + 1 }

theorem stepRD_wf {R : RD} {K : Nat} (h : R.Wf K) : (stepRD R).Wf (K + 1) := by
 unfold stepRD
 have hl := h.lf
 have hc := h.ct
 split
 ·exact { h with fl := Nat.le_succ_of_le h.fl, bl := Nat.le_succ_of_le h.bl, ct := ⟨hc.1, by have := hc.2; simp; omega⟩ }
 ·refine { h with fl := Nat.le_succ_of_le h.fl, bl := Nat.le_succ_of_le h.bl, ct := ⟨by simp; omega, by have := hc.2; simp; omega⟩, lf := ?_ }
  simp only; split <;> omega

theorem fin_rd {R : RD} {K : Nat} (h : R.Wf K) {S S' : St} (hg : Grows S S') (e : Int) : finish false S S' (.tup [R.v, .int .i64 e]) = (.tup [R.v, .int .i64 e], S) := by
 rw [fin_free hg (by simp [PV.free, PV.freeL, h.free])]
 simp [PV.frz, PV.frzL, h.frz]
theorem fin_rd1 {R : RD} {K : Nat} (h : R.Wf K) {S S' : St} (hg : Grows S S') : finish false S S' R.v = (R.v, S) := by
 rw [fin_free hg h.free, h.frz]

theorem rstep_val {R : RD} {K : Nat} (h : R.Wf K) (hK : K ≤ 1048570) {S : St} : cval T 206 [R.v] S = some (.tup [(stepRD R).v, .int .i64 (stepE R)], S) := by
 have hw' := stepRD_wf h
 have hlf := h.lf
 have hct := h.ct
 have o1 := h.fs.one.1
 have o2 := h.bs.one.1
 have o3 := h.ws.one.1
 obtain ⟨room, fv, files, bv, base, wv, wait, left, dark, count⟩ := R
 simp only at o1 o2 o3
 simp only at hlf hct
 have hw1 : IntKind.i64.wrap (count + 1) = count + 1 := wrap_i64 (by omega) (by omega)
 by_cases hl : left = 0
 ·subst hl
  have eD : stepRD ⟨room, fv, files, bv, base, wv, wait, 0, dark, count⟩ = ⟨room, fv, files, bv, base, wv, wait, 0, true, count⟩ := by simp [stepRD]
  have eR : stepE ⟨room, fv, files, bv, base, wv, wait, 0, dark, count⟩ = 6 := by simp [stepE]
  rw [eD] at hw'
  rw [eD, eR]
  refine cval_ok' fn_206 rfl ?_
  simp only [RD.v, RD.c]
  simp -implicitDefEqProofs [ref04_step, pstep, o1, o2, o3, putCells, part7]
  exact ends_ct (by simp [part7] <;> rfl) (by simp <;> rfl) (fin_rd hw' ((Grows.refl S).objs [_, _]) 6)
 ·have hl' : (left == 0) = false := by simpa using hl
  cases dark with
  | true =>
   have eD : stepRD ⟨room, fv, files, bv, base, wv, wait, left, true, count⟩ = ⟨room, fv, files, bv, base, wv, wait, left, true, count⟩ := by simp [stepRD]
   have eR : stepE ⟨room, fv, files, bv, base, wv, wait, left, true, count⟩ = 6 := by simp [stepE]
   rw [eD] at hw'
   rw [eD, eR]
   refine cval_ok' fn_206 rfl ?_
   simp only [RD.v, RD.c]
   simp -implicitDefEqProofs [ref04_step, pstep, o1, o2, o3, putCells, part7, hl']
   exact ends_ct (by simp [part7] <;> rfl) (by simp <;> rfl) (fin_rd hw' ((Grows.refl S).objs [_, _]) 6)
  | false =>
   have eR : stepE ⟨room, fv, files, bv, base, wv, wait, left, false, count⟩ = 0 := by simp [stepE, hl]
   by_cases hp : 0 < left
   ·have hw2 : IntKind.i64.wrap (left - 1) = left - 1 := wrap_i64 (by omega) (by omega)
    have eD : stepRD ⟨room, fv, files, bv, base, wv, wait, left, false, count⟩ = ⟨room, fv, files, bv, base, wv, wait, left - 1, false, count + 1⟩ := by simp [stepRD, hl, hp]
    rw [eD] at hw'
    rw [eD, eR]
    refine cval_ok' fn_206 rfl ?_
    simp only [RD.v, RD.c]
    simp -implicitDefEqProofs [ref04_step, pstep, o1, o2, o3, putCells, part7, hl', hp, hw1, hw2]
    exact ends_ct (by simp [part7] <;> rfl) (by simp <;> rfl) (fin_rd hw' ((Grows.refl S).objs [_, _]) 0)
   ·have eD : stepRD ⟨room, fv, files, bv, base, wv, wait, left, false, count⟩ = ⟨room, fv, files, bv, base, wv, wait, left, false, count + 1⟩ := by simp [stepRD, hl, hp]
    rw [eD] at hw'
    rw [eD, eR]
    refine cval_ok' fn_206 rfl ?_
    simp only [RD.v, RD.c]
    simp -implicitDefEqProofs [ref04_step, pstep, o1, o2, o3, putCells, part7, hl', hp, hw1]
    exact ends_ct (by simp [part7] <;> rfl) (by simp <;> rfl) (fin_rd hw' ((Grows.refl S).objs [_, _]) 0)

def newR (room : Int) : RD := ⟨room, .nils, [], .nils, [], .nils, [], -1, false, 0⟩
theorem newR_wf {room : Int} (h : 1 ≤ room ∧ room ≤ 4194304) : (newR room).Wf 0 where
 fs := sl0_nils 2
 bs := sl0_nils 2
 ws := sl0_nils 4
 ff := by simp [newR]
 fl := by simp [newR]
 bl := by simp [newR]
 rm := h
 ct := by simp [newR]
 lf := by simp [newR]

theorem rnew_ok {room : Int} (h : 1 ≤ room ∧ room ≤ 4194304) : cval T 17 [.int .i64 room] St0 = some (.tup [(newR room).v, .int .i64 0], St0) := by
 have h1 : ¬ room < 1 := by omega
 have h2 : ¬ 4194304 < room := by omega
 refine cval_ok' fn_17 rfl ?_
 simp -implicitDefEqProofs [ref04_New, pstep, putCells, peval, fillParts, part7, h1, h2, newR, RD.v, RD.c]
 exact ends_ct (by simp [part7] <;> rfl) (by simp <;> rfl) (fin_rd (newR_wf h) ((Grows.refl St0).objs [_]) 0)
theorem rnew_pval {room : Int} (h : 1 ≤ room ∧ room ≤ 4194304) : pval T 17 [.int .i64 room] = some (.tup [(newR room).v, .int .i64 0]) := pval_st (rnew_ok h) rfl rfl
def fuseR (R : RD) (n : Int) : RD := { R with left := if n < -1 then -1 else n }
theorem fuseR_wf {R : RD} {K : Nat} (h : R.Wf K) {n : Int} (hn : n ≤ 9223372036854775807) : (fuseR R n).Wf K :=
 { h with lf := by simp only [fuseR]; split <;> omega }
theorem rfuse_val {R : RD} {K : Nat} (h : R.Wf K) {n : Int} (hn : n ≤ 9223372036854775807) {S : St} : cval T 88 [R.v, .int .i64 n] S = some ((fuseR R n).v, S) := by
 have hw' := fuseR_wf h hn
 have o1 := h.fs.one.1
 have o2 := h.bs.one.1
 have o3 := h.ws.one.1
 obtain ⟨room, fv, files, bv, base, wv, wait, left, dark, count⟩ := R
 simp only at o1 o2 o3
 refine cval_ok' fn_88 rfl ?_
 simp only [RD.v, RD.c]
 by_cases hc : n < -1
 ·have eD : fuseR ⟨room, fv, files, bv, base, wv, wait, left, dark, count⟩ n = ⟨room, fv, files, bv, base, wv, wait, -1, dark, count⟩ := by simp [fuseR, hc]
  rw [eD] at hw' ⊢
  simp -implicitDefEqProofs [ref04_Fuse, pstep, o1, o2, o3, putCells, part7, hc]
  first
   | exact ends_c (by simp [part7] <;> rfl) (fin_rd1 hw' ((Grows.refl S).objs [_, _]))
   | (rw [if_pos (by omega)]; exact ends_c (by simp [part7] <;> rfl) (fin_rd1 hw' ((Grows.refl S).objs [_, _])))
 ·have eD : fuseR ⟨room, fv, files, bv, base, wv, wait, left, dark, count⟩ n = ⟨room, fv, files, bv, base, wv, wait, n, dark, count⟩ := by simp [fuseR, hc]
  rw [eD] at hw' ⊢
  by_cases hc2 : n = -1
  ·subst hc2
   simp -implicitDefEqProofs [ref04_Fuse, pstep, o1, o2, o3, putCells, part7]
   exact ends_c (by simp [part7] <;> rfl) (fin_rd1 hw' ((Grows.refl S).objs [_, _]))
  ·have h3 : -1 < n := by omega
   have h4 : ¬ n < -1 := by omega
   simp -implicitDefEqProofs [ref04_Fuse, pstep, o1, o2, o3, putCells, part7, h3, h4]
   exact ends_c (by simp [part7] <;> rfl) (fin_rd1 hw' ((Grows.refl S).objs [_, _]))

def readRE (R : RD) (n : Nm) : Int := if namedB n = false then 8 else if atR n (liveR R) < 0 then 9 else if R.dark then 6 else 0
def readRV (R : RD) (n : Nm) : PV := if readRE R n = 0 then (match R.files[(atR n (liveR R)).toNat]? with | some f => f.bv | none => .nils) else .nils
def readRB (R : RD) (n : Nm) : List UInt8 := if readRE R n = 0 then (match R.files[(atR n (liveR R)).toNat]? with | some f => f.b | none => []) else []

theorem readR_sl {R : RD} {K : Nat} (h : R.Wf K) (n : Nm) : Sl0 1 (readRV R n) (ofBytes (readRB R n)) := by
 unfold readRV readRB
 split
 ·split
  ·rename_i f hf
   exact (h.ff f (List.mem_of_getElem? hf)).1
  ·exact sl0_nils 1
 ·exact sl0_nils 1

theorem rread_val {R : RD} {K : Nat} (h : R.Wf K) (hK : K ≤ 1048570) {n : Nm} (hn : n.length ≤ maxLen) (hf : ∀ e ∈ liveR R, e.2 < R.files.length) {S : St} : cval T 87 [R.v, .str n] S = some (.tup [readRV R n, .int .i64 (readRE R n)], S) := by
 have hnm := rnamed_pval hn
 obtain ⟨lv, l1, l2⟩ := live_val h hK (S := S)
 have hll : (liveR R).length ≤ maxLen := by have := liveR_len h; unfold maxLen; omega
 have ha := at_val l2.reads hll (n := n) (S := S)
 have hsl := readR_sl h n
 have o1 := h.fs.one.1
 have o2 := h.bs.one.1
 have o3 := h.ws.one.1
 have hfin : ∀ e : Int, e = readRE R n → finish false S S (.tup [readRV R n, .int .i64 e]) = (.tup [readRV R n, .int .i64 (readRE R n)], S) := by
  intro e he
  subst he
  rw [fin_free (Grows.refl S) (by simp [PV.free, PV.freeL, hsl.free])]
  simp [PV.frz, PV.frzL, hsl.frz]
 have hat : 0 ≤ atR n (liveR R) → (atR n (liveR R)).toNat < R.files.length := by
  have key : ∀ l : List RE, (∀ e ∈ l, e.2 < R.files.length) → 0 ≤ atR n l → (atR n l).toNat < R.files.length := by
   intro l
   induction l with
   | nil => intro _ h; simp [atR] at h
   | cons x l ih =>
    obtain ⟨q, f⟩ := x
    intro h1 h2
    simp only [atR] at h2 ⊢
    split at h2
    ·rename_i hq
     have := h1 (q, f) (by simp)
     simp only [hq, if_true]
     simp only at this; omega
    ·rename_i hq
     simp only [hq, if_false, Bool.false_eq_true]
     exact ih (fun e he => h1 e (by simp [he])) h2
  exact key _ hf
 refine cval_ok' fn_87 rfl ?_
 simp only [RD.v, RD.c] at l1 ⊢
 by_cases h1 : namedB n = true
 ·by_cases h2 : atR n (liveR R) < 0
  ·simp -implicitDefEqProofs [ref04_Read, pstep, o1, o2, o3, hnm, h1, h2, part7, l1, ha]
   have e : readRE R n = 9 := by simp [readRE, h1, h2]
   have e2 : readRV R n = .nils := by simp [readRV, e]
   have := hfin 9 e.symm
   rw [e2] at this ⊢
   exact this
  ·have hlt := hat (by omega)
   have hx : R.files[(atR n (liveR R)).toNat]? = some R.files[(atR n (liveR R)).toNat] := List.getElem?_eq_getElem hlt
   cases hd : R.dark with
   | true =>
    simp -implicitDefEqProofs [ref04_Read, pstep, o1, o2, o3, hnm, h1, h2, part7, l1, ha, hd]
    rw [hd] at l1
    have e : readRE R n = 6 := by simp [readRE, h1, h2, hd]
    have e2 : readRV R n = .nils := by simp [readRV, e]
    have := hfin 6 e.symm
    rw [e2] at this ⊢
    simp -implicitDefEqProofs [l1, ha, h2, hd]
    exact this
   | false =>
    rw [hd] at l1
    have hg := h.fs.reads.get (atR n (liveR R)).toNat (by simpa using hlt) .i64
    have hgx : (R.files.map RF.v)[(atR n (liveR R)).toNat]'(by simpa using hlt) = R.files[(atR n (liveR R)).toNat].v := by simp
    rw [hgx, RF.v_cells] at hg
    have hnn : (((atR n (liveR R)).toNat : Nat) : Int) = atR n (liveR R) := by omega
    rw [hnn] at hg
    have e : readRE R n = 0 := by simp [readRE, h1, h2, hd]
    have e2 : readRV R n = R.files[(atR n (liveR R)).toNat].bv := by simp only [readRV, e, if_true, hx]
    have := hfin 0 e.symm
    rw [e2] at this ⊢
    simp -implicitDefEqProofs [ref04_Read, pstep, o1, o2, o3, hnm, h1, h2, part7, l1, ha, hd, hg]
    exact this
 ·have h1' : namedB n = false := by simpa using h1
  simp -implicitDefEqProofs [ref04_Read, pstep, o1, o2, o3, hnm, h1']
  have e : readRE R n = 8 := by simp [readRE, h1']
  have e2 : readRV R n = .nils := by simp [readRV, e]
  have := hfin 8 e.symm
  rw [e2] at this ⊢
  exact this

def namesR (R : RD) : List Nm := if R.dark then [] else (liveR R).map (·.1)
theorem rlist_val {R : RD} {K : Nat} (h : R.Wf K) (hK : K ≤ 1048570) {S : St} : ∃ v, cval T 92 [R.v] S = some (v, S) ∧ Sl0 1 v ((namesR R).map .str) := by
 obtain ⟨lv, l1, l2⟩ := live_val h hK (S := S)
 have hll : (liveR R).length ≤ maxLen := by have := liveR_len h; unfold maxLen; omega
 have hlen := l2.len
 rw [List.length_map] at hlen
 have o1 := h.fs.one.1
 have o2 := h.bs.one.1
 have o3 := h.ws.one.1
 simp only [RD.v, RD.c] at l1 ⊢
 obtain ⟨r, S2, h1, h2, h3⟩ := cval_ex (T := T) fn_92 (args := [.agg [.int .i64 R.room, R.fv, R.bv, R.wv, .int .i64 R.left, .bool R.dark, .int .i64 R.count]]) (S := S) rfl (R := fun r S2 => S2 = S ∧ Sl0 1 r ((namesR R).map .str)) (by
  simp -implicitDefEqProofs [ref04_List, pstep, o1, o2, o3, part7, l1]
  refine lp_up (if R.dark then 0 else (liveR R).length) (fun i fr S' => fr 1 = .ref [.int .i64 R.room, R.fv, R.bv, R.wv, .int .i64 R.left, .bool R.dark, .int .i64 R.count] ∧ fr 4 = lv ∧ fr 5 = .int .i64 (i : Int) ∧ AccG S 1 S' (fr 3) (((liveR R).take i).map fun e => .str e.1)) ?_ ?_ 0 (Nat.zero_le _) _ _ ⟨by simp, by simp, by simp, by simpa using accg_nil 1 (Grows.refl S)⟩
  ·rintro i fr S' hi ⟨f1, f4, f5, ha⟩ k
   cases hd : R.dark with
   | true => rw [hd] at hi; simp at hi
   | false =>
    rw [hd] at hi f1
    simp only [Bool.false_eq_true, if_false] at hi
    have hw := wrap_up hi hll
    have hg := l2.reads.get i (by simpa using hi) .i64
    have hx : ((liveR R).map entR)[i]'(by simpa using hi) = entR (liveR R)[i] := by simp
    rw [hx, entR_cells] at hg
    have ht : (liveR R).take (i + 1) = (liveR R).take i ++ [(liveR R)[i]] := by rw [List.take_add_one, List.getElem?_eq_getElem hi]; rfl
    have hle : (((liveR R).take i).map fun e => PV.str e.1).length ≤ 1048576 := by
     have := liveR_len h
     simp; omega
    obtain ⟨v', S1, a1, a2, a3⟩ := ha.push (bytes := 16) (.str (liveR R)[i].1) (by omega)
    have hL := fun (fr' : Fr) (g1 : fr' 1 = _) (g4 : fr' 4 = lv) (g5 : fr' 5 = .int .i64 ((i : Int) + 1)) (g3 : fr' 3 = v') => k fr' S1 ⟨g1, g4, by simpa using g5, by rw [g3, ht, List.map_append]; exact a2⟩
    clear k
    rw [gval_lp]
    simp -implicitDefEqProofs [f1, f4, f5, hlen, hi, hg, pstep, elems, setParts, part1, a1]
    exact hL _ (by simp [f1, hd]) (by simp [f4]) (by simp [hw]) (by simp)
  ·rintro fr S' ⟨f1, f4, f5, ha⟩
   have hz : (((liveR R).take (if R.dark then 0 else (liveR R).length)).map fun e => PV.str e.1) = (namesR R).map .str := by
    unfold namesR
    cases R.dark <;> simp
   rw [hz] at ha
   obtain ⟨q1, q2⟩ := ha.sl0 (fun e he => by obtain ⟨x, _, rfl⟩ := List.mem_map.1 he; rfl) (freeL_map _ (fun _ => rfl) _) (frzL_map' _ (fun _ => rfl) _)
   rw [gval_lp]
   cases hd : R.dark with
   | true =>
    rw [hd] at f1 f5
    simp only [if_true] at f5
    by_cases h0 : 0 < (liveR R).length
    ·have h0' : (0 : Int) < ((liveR R).length : Int) := by omega
     simp -implicitDefEqProofs [f1, f4, f5, hlen, h0, h0', q1, q2]
    ·have h0' : ¬ (0 : Int) < ((liveR R).length : Int) := by omega
     simp -implicitDefEqProofs [f1, f4, f5, hlen, h0, h0', q1, q2]
   | false =>
    rw [hd] at f1 f5
    simp only [Bool.false_eq_true, if_false] at f5
    simp -implicitDefEqProofs [f1, f4, f5, hlen, q1, q2])
 subst h2
 exact ⟨r, h1, h3⟩
end Ps
