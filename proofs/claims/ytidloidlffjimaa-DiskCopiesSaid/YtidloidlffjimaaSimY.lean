/- A range over a map, in whatever order its entries come, with whatever rounds; functions. -/
import Derived.Test.YtidloidlffjimaaSimX
namespace Ps
set_option linter.unusedVariables false
set_option linter.unusedSimpArgs false
open Go
open Go.RowKit (Below)
section
variable {X : Tie} {g : Gh} {w w' : World} {n : Dn} {fr : Fr} {a : Act} {S : St}
def unmk (id : Nat) (cs : List PV) (S : St) : St := { S with objs := S.objs.set id cs }

def RgW (X : Tie) (it en : Nat) (post : List POper) (l : List (Nat × Nat)) (b : PCode) (Post : Fr → St → Prop) : Nat → List (PV × PV) → Fr → St → Prop
 | 0, rem, fr, S => rem = [] ∧ Post fr S
 | N + 1, rem, fr, S => ∀ k v rem' r, rem.Perm ((k, v) :: rem') → ∃ fr2 S2, pops X.T (cval X.T) post (upd (upd fr it (.hnd r)) en (.tup [k, v])) S = some (fr2, S2) ∧
   W X b fr2 S2 (fun e fr3 S3 => e = .norm ∧ fr3 it = .hnd r ∧ RgW X it en post l b Post N rem' (clrs l fr3) S3)

theorem VR.mfz (f : Nat → Bool) {v : PV} {u : Value} (r : VR X g w v u) : VR X { g with mfz := f } w v u := by
 induction r with
 | und u => exact .und u
 | int k n => exact .int k n
 | bool b => exact .bool b
 | str s => exact .str s
 | nilp => exact .nilp
 | nils => exact .nils
 | nili => exact .nili
 | nilf => exact .nilf
 | ptr id off b e => exact .ptr id off b e
 | ref cs b o us hpub hc _ ih => exact .ref cs b o us hpub hc ih
 | sl tip es sp b o cap sz us hcap hpos hsz hpub hc _ hlink hone ih => exact .sl tip es sp b o cap sz us hcap hpos hsz hpub hc ih hlink hone
 | slz a => exact .slz a
 | osl id off len sz cap b e hl hr => exact .osl id off len sz cap b e hl hr
 | emp a => exact .emp a
 | iface t v u _ ih => exact .iface t v u ih
 | agg cs us hl _ ih => exact .agg cs us hl ih
 | tup cs us hl _ ih => exact .tup cs us hl ih
 | fn f cs us hl _ ih => exact .fn f cs us hl ih
 | nilm => exact .nilm
 | map id b e => exact .map id b e
 | hnd b => exact .hnd b
 | bfn f cs us hl _ ih => exact .bfn f cs us hl ih

theorem MR.mark' {cs : List PV} {es : List MapEntry} (h : MR X g w cs es) : cs.length % 2 = 0 → MR X g w (cs ++ [.und]) es := by
 induction h with
 | nil => intro _; exact .mark
 | mark => intro h; simp at h
 | cons k v cs e es hk hkk hv _ ih =>
  intro h
  exact .cons k v _ e es hk hkk hv (ih (by simp only [List.length_cons] at h; omega))

theorem PairsR.mono {g' : Gh} (hle : Le g w g' w') {ps : List (PV × PV)} {es : List MapEntry} (hp : PairsR X g w ps es) : PairsR X g' w' ps es := by
 induction hp with
 | nil => exact .nil
 | cons k v ps e es hk hv _ ih => exact .cons k v ps e es (hk.mono hle) (hv.mono hle) ih

theorem mark_sr (hS : SR X g S w) {id bm : Nat} {cs : List PV} (hid : g.mp id = some bm) (hcs : S.objs[id]? = some cs) (hev : cs.length % 2 = 0) :
  Le g w { g with mfz := fun b => b == bm || g.mfz b } w ∧ SR X { g with mfz := fun b => b == bm || g.mfz b } (unmk id (cs ++ [.und]) S) w := by
 have hle : Le g w { g with mfz := fun b => b == bm || g.mfz b } w := ⟨rfl, rfl, rfl, Nat.le_refl _, fun _ _ h => h, fun _ _ h => h, fun _ _ h => h, fun _ => Nat.le_refl _, fun _ _ _ => rfl, fun _ us _ _ h => ⟨us, h, rfl⟩,
  fun id _ h => .inl ⟨id, h⟩, fun _ _ h => .inl h, fun _ _ _ _ _ => rfl, fun _ _ _ _ _ => rfl, fun _ _ h => h, fun _ _ h => .inl h, fun b _ _ h e => ⟨by simp [h], e⟩⟩
 have hlt := (List.getElem?_eq_some_iff.1 hcs).1
 have hoth : ∀ i, i ≠ id → (unmk id (cs ++ [.und]) S).objs[i]? = S.objs[i]? := fun i hne => by simp only [unmk]; rw [List.getElem?_set_ne (Ne.symm hne)]
 obtain ⟨hij, hop⟩ := inj_of hS (S' := unmk id (cs ++ [.und]) S) (fun i b' h => hoth i (fun e => by subst e; exact hS.maps.dis _ _ _ hid h))
 refine ⟨hle, ⟨fun i b' h => ?_, hij, hop, hS.arr, hS.asz, hS.lt, ⟨fun i b' h => ?_, hS.maps.inj, hS.maps.pub, hS.maps.dis, fun b' h => ?_⟩⟩⟩
 ·obtain ⟨cs', us, t, h1, h2, h3, h4⟩ := hS.obj i b' h
  exact ⟨cs', us, t, by rw [hoth i (fun e => by subst e; exact hS.maps.dis _ _ _ hid h)]; exact h1, h2, h3, fun j c u e1 e2 => (h4 j c u e1 e2).mono hle⟩
 ·obtain ⟨cs', es, cl, h1, h2, h3, h4⟩ := hS.maps.ent i b' h
  by_cases hi : i = id
  ·subst hi
   rw [hcs] at h1; cases h1
   exact ⟨cs ++ [.und], es, cl, by simp [unmk, hlt], h2, h3, (h4.imp (fun c u r => r.mono hle)).mark' hev⟩
  ·exact ⟨cs', es, cl, by rw [hoth i hi]; exact h1, h2, h3, h4.imp (fun c u r => r.mono hle)⟩
 ·simp only [Bool.or_eq_true, beq_iff_eq] at h
  by_cases e : b' = bm
  ·subst e
   exact ⟨id, cs ++ [.und], hid, by simp [unmk, hlt], by simp; omega⟩
  ·obtain ⟨i, cs', h1, h2, h3⟩ := hS.maps.fz b' (h.resolve_left e)
   exact ⟨i, cs', h1, by rw [hoth i (fun q => by subst q; rw [hid] at h1; cases h1; exact e rfl)]; exact h2, h3⟩

theorem unmark_sr (hS : SR X g S w) {id bm : Nat} {cs : List PV} {es : Array MapEntry} {clock : Nat} (hid : g.mp id = some bm) (hb : w.heap[bm]? = some (.map es clock)) (hmr : MR X g w cs es.toList) :
  SR X { g with mfz := fun b => b != bm && g.mfz b } (unmk id cs S) w := by
 have hlt : id < S.objs.length := by
  obtain ⟨_, _, _, h1, _⟩ := hS.maps.ent id bm hid
  exact (List.getElem?_eq_some_iff.1 h1).1
 have hoth : ∀ i, i ≠ id → (unmk id cs S).objs[i]? = S.objs[i]? := fun i hne => by simp only [unmk]; rw [List.getElem?_set_ne (Ne.symm hne)]
 obtain ⟨hij, hop⟩ := inj_of hS (S' := unmk id cs S) (fun i b' h => hoth i (fun e => by subst e; exact hS.maps.dis _ _ _ hid h))
 refine ⟨fun i b' h => ?_, hij, hop, hS.arr, hS.asz, hS.lt, ⟨fun i b' h => ?_, hS.maps.inj, hS.maps.pub, hS.maps.dis, fun b' h => ?_⟩⟩
 ·obtain ⟨cs', us, t, h1, h2, h3, h4⟩ := hS.obj i b' h
  exact ⟨cs', us, t, by rw [hoth i (fun e => by subst e; exact hS.maps.dis _ _ _ hid h)]; exact h1, h2, h3, fun j c u e1 e2 => (h4 j c u e1 e2).mfz _⟩
 ·obtain ⟨cs', es', cl, h1, h2, h3, h4⟩ := hS.maps.ent i b' h
  by_cases hi : i = id
  ·subst hi
   have : b' = bm := by
    have h : g.mp i = some b' := h
    rw [hid] at h; cases h; rfl
   subst this
   rw [hb] at h2; cases h2
   exact ⟨cs, _, _, by simp [unmk, hlt], hb, h3, hmr.imp (fun c u r => r.mfz _)⟩
  ·exact ⟨cs', es', cl, by rw [hoth i hi]; exact h1, h2, h3, h4.imp (fun c u r => r.mfz _)⟩
 ·simp only [Bool.and_eq_true, bne_iff_ne, ne_eq] at h
  obtain ⟨i, cs', h1, h2, h3⟩ := hS.maps.fz b' h.2
  exact ⟨i, cs', h1, by rw [hoth i (fun q => by subst q; rw [hid] at h1; cases h1; exact h.1 rfl)]; exact h2, h3⟩

structure Priv (g : Gh) (w : World) (r : Nat) : Prop where
 lt : r < w.heap.size
 obj : ∀ id, g.obj id ≠ some r
 arr : g.arr r = none
 mp : ∀ id, g.mp id ≠ some r

theorem Priv.le {g' : Gh} {r : Nat} (h : Priv g w r) (hle : Le g w g' w') : Priv g' w' r ∧ w'.heap[r]? = w.heap[r]? := by
 have hlt := h.lt
 refine ⟨⟨Nat.lt_of_lt_of_le hlt hle.size, fun id e => ?_, ?_, fun id e => ?_⟩, hle.keep r hlt h.obj h.arr h.mp⟩
 ·rcases hle.objN id r e with ⟨i, e1⟩ | e1
  ·exact h.obj i e1
  ·omega
 ·cases e : g'.arr r with
  | none => rfl
  | some x =>
   rcases hle.arrN r x e with e1 | e1
   ·rw [h.arr] at e1; cases e1
   ·omega
 ·rcases hle.mpN id r e with e1 | e1
  ·exact h.mp id e1
  ·omega

set_option maxHeartbeats 1000000 in
theorem rng_roundsW (hX : TieOk X) {id6 id7 m m1 it nx ok en bm r clock : Nat} {ops6 ops7 : Array Oper} {o6 o6b o7 : Oper} {r7 : List Oper} {B : Code} {post : List POper} {b : PCode} {l : List (Nat × Nat)} {es : Array MapEntry}
  (h6 : ops6.toList = [o6, o6b]) (h7 : ops7.toList = o7 :: r7) (g6 : o6.guard = none) (g6b : o6b.guard = none) (g7 : o7.guard = none)
  (d6 : o6.dst = some nx) (d6b : o6b.dst = some ok) (d7 : o7.dst = some en) (p6 : o6.op = .next (.tmp it) false) (p6b : o6b.op = .extract (.tmp nx) 0) (p7 : o7.op = .entry (.tmp it))
  (hc7 : chkOpers X n ops7 r7 post = true) (hcB : chkCodeW X n B b = true) (ln : nx < n) (lk : ok < n) (le' : en < n) (i1 : inL it l = true) (i2 : inL nx l = true) (i3 : inL ok l = true)
  (ne1 : it ≠ en) (ne2 : it ≠ nx) (ne3 : it ≠ ok) (ne4 : nx ≠ ok)
  {g0 : Gh} {w0 : World} (hr0 : w0.heap.size ≤ r) (hn : (es.toList.map (·.born)).Nodup) (hst : ∀ x ∈ es.toList, x.born < clock) {Post : Fr → St → Prop} {Q : Exit → Act → World → Prop}
  (hQ : ∀ g' w' a' fr' S', Le g0 w0 g' w' → SR X g' S' w' → FR X n g' w' fr' a' → w'.heap[bm]? = some (.map es clock) → Post fr' S' → Q .normal a' w') :
  ∀ (N : Nat) (rem : List (PV × PV)) (seen : Array Nat) (g : Gh) (w : World) (a : Act) (fr : Fr) (S : St), rem.length = N → Le g0 w0 g w → SR X g S w → FR X n g w fr a → a.tmps.getD it undef = .pointer (some ⟨r, 0, none⟩) →
   w.heap[r]? = some (.mapIter (some bm) clock seen clock) → w.heap[bm]? = some (.map es clock) → g.mfz bm = true → Priv g w r → PairsR X g w rem (leftOf es seen).toList → fr nx = .und → fr ok = .und →
   RgW X it en post l b Post N rem fr S →
   InLoop X.P (.seq (.region id6 ops6 false) (.seq (.cond (.tmp ok) .skip (.exit m)) (.block m1 (.seq (.region id7 ops7 false) B)))) (Exit.inBlock m Q) a w := by
 have s6 : List.range ops6.size = [0, 1] := by
  have : ops6.size = 2 := by rw [← Array.length_toList, h6]; rfl
  rw [this]; rfl
 have e60 : ops6[0]? = some o6 := by rw [← Array.getElem?_toList, h6]; rfl
 have e61 : ops6[1]? = some o6b := by rw [← Array.getElem?_toList, h6]; rfl
 have e70 : ops7[0]? = some o7 := by rw [← Array.getElem?_toList, h7]; rfl
 have s7 : List.range ops7.size = 0 :: List.range' 1 r7.length := by
  have : ops7.size = r7.length + 1 := by rw [← Array.length_toList, h7]; rfl
  rw [this, List.range_eq_range', List.range'_succ]
 have want6 : ∀ y, Region.wanted o6 y = true := fun y => by simp [Region.wanted, g6]
 have want6b : ∀ y, Region.wanted o6b y = true := fun y => by simp [Region.wanted, g6b]
 have want7 : ∀ y, Region.wanted o7 y = true := fun y => by simp [Region.wanted, g7]
 intro N
 induction N with
 | zero =>
  intro rem seen g w a fr S hrem hle hS hF hit hr hbm hmf hpr hp hnx hok hall
  obtain ⟨rfl, hfin⟩ := hall
  have hl0 : (leftOf es seen).size = 0 := by rw [← Array.length_toList, ← hp.length]; rfl
  have hnext : (Instr.next (.pointer (some ⟨r, 0, none⟩)) false o6.type).run X.P w = .ok (.tuple #[.bool false]) w := by
   rcases run_next_at (P := X.P) w o6.type r bm clock clock seen es clock hr hbm hst (Nat.le_refl _) with h | ⟨e, he, _⟩
   ·exact h.2
   ·exfalso
    have : (leftOf es seen).toList.length = 0 := by rw [Array.length_toList]; exact hl0
    rw [List.eq_nil_of_length_eq_zero this] at he
    cases he
  refine inLoop_round (wp_seq (wp_region ?_))
  rw [s6]
  simp only [wpOps, e60, e61, want6, want6b, if_true]
  left
  unfold Oper.wp
  have x6 : (execOp a.eval o6).run X.P w = .ok (.value (.tuple #[.bool false])) w := by
   have : a.eval (.tmp it) = .pointer (some ⟨r, 0, none⟩) := hit
   cases o6 with
   | mk dst op ty pos after guard =>
    simp only at p6
    subst p6
    simp only at hnext
    simp [execOp, this, hnext]
  rw [x6, Oper.upon_value, d6]
  have hz : (a.put (some nx) (.tuple #[.bool false])).tmps.getD nx undef = .tuple #[.bool false] := getD_put_self (by rw [hF.size]; exact ln)
  left
  have x6b : (execOp (a.put (some nx) (.tuple #[.bool false])).eval o6b).run X.P w = .ok (.value (.bool false)) w := by
   cases o6b with
   | mk dst op ty pos after guard =>
    simp only at p6b
    subst p6b
    exact extract0_run hz rfl _ _ _ _ _
  rw [x6b, Oper.upon_value, d6b]
  have hF1 : FR X n g w fr (a.put (some nx) (.tuple #[.bool false])) := by
   have := hF.put (d := some nx) (fun t e => by cases e; exact ln) (.und (X := X) (g := g) (w := w) (.tuple #[.bool false]))
   rwa [upd_und hnx] at this
  have hF2 : FR X n g w fr ((a.put (some nx) (.tuple #[.bool false])).put (some ok) (.bool false)) := by
   have := hF1.put (d := some ok) (fun t e => by cases e; exact lk) (.und (X := X) (g := g) (w := w) (.bool false))
   rwa [upd_und hok] at this
  refine wp_seq (wp_cond_false (getD_put_self (by rw [hF1.size]; exact lk)) (wp_exit ?_))
  show Exit.inBlock m Q (.exit m) _ _
  simp only [Exit.inBlock, if_true]
  exact hQ _ _ _ _ _ hle hS hF2 hbm hfin
 | succ N ih =>
  intro rem seen g w a fr S hrem hle hS hF hit hr hbm hmf hpr hp hnx hok hall
  obtain ⟨e, he, w1, hw1, hnext⟩ : ∃ e ∈ (leftOf es seen).toList, ∃ w1 : World, (w1 = w ∨ w1 = w.drew) ∧ (Instr.next (.pointer (some ⟨r, 0, none⟩)) false o6.type).run X.P w = .ok (.tuple #[.bool true, e.key, e.val]) (ChangeMaps.setBlock w1 r (.mapIter (some bm) clock (seen.push e.born) clock)) := by
   rcases run_next_at (P := X.P) w o6.type r bm clock clock seen es clock hr hbm hst (Nat.le_refl _) with h | h
   ·have h0 : (leftOf es seen).toList.length = 0 := by rw [Array.length_toList]; exact h.1
    have := hp.length
    omega
   ·exact h
  obtain ⟨hIt, hr'⟩ := itAt_next hr hw1 (some bm) clock clock (seen.push e.born)
  generalize ChangeMaps.setBlock w1 r (.mapIter (some bm) clock (seen.push e.born) clock) = w2 at hnext hIt hr'
  obtain ⟨k, v, rem', hk, hv, hperm, hp'⟩ := hp.take he (left_nodup seen hn)
  have hle2 := hle.itAt hIt hr0
  have hS2 := hS.itAt hIt
  have hF2 := hF.itAt hIt
  have hk2 := hk.itAt hIt
  have hv2 := hv.itAt hIt
  have hp2 : PairsR X g w2 rem' (leftOf es (seen.push e.born)).toList := by rw [left_push]; exact hp'.itAt hIt
  have hbm2 := hIt.map hbm
  have hpr2 : Priv g w2 r := ⟨by rw [hIt.size]; exact hpr.lt, hpr.obj, hpr.arr, hpr.mp⟩
  have hrem2 : rem'.length = N := by
   have := hperm.length_eq
   simp only [List.length_cons] at this
   omega
  obtain ⟨fr2, S2, hpost, hW⟩ := hall k v rem' r hperm
  refine inLoop_round (wp_seq (wp_region ?_))
  rw [s6]
  simp only [wpOps, e60, e61, want6, want6b, if_true]
  left
  unfold Oper.wp
  have x6 : (execOp a.eval o6).run X.P w = .ok (.value (.tuple #[.bool true, e.key, e.val])) w2 := by
   have : a.eval (.tmp it) = .pointer (some ⟨r, 0, none⟩) := hit
   cases o6 with
   | mk dst op ty pos after guard =>
    simp only at p6
    subst p6
    simp only at hnext
    simp [execOp, this, hnext]
  rw [x6, Oper.upon_value, d6]
  have hz : (a.put (some nx) (.tuple #[.bool true, e.key, e.val])).tmps.getD nx undef = .tuple #[.bool true, e.key, e.val] := getD_put_self (by rw [hF.size]; exact ln)
  left
  have x6b : (execOp (a.put (some nx) (.tuple #[.bool true, e.key, e.val])).eval o6b).run X.P w2 = .ok (.value (.bool true)) w2 := by
   cases o6b with
   | mk dst op ty pos after guard =>
    simp only at p6b
    subst p6b
    exact extract0_run hz rfl _ _ _ _ _
  rw [x6b, Oper.upon_value, d6b]
  have hF3 : FR X n g w2 fr (a.put (some nx) (.tuple #[.bool true, e.key, e.val])) := by
   have := hF2.put (d := some nx) (fun t e => by cases e; exact ln) (.und (X := X) (g := g) (w := w2) (.tuple #[.bool true, e.key, e.val]))
   rwa [upd_und hnx] at this
  have hF4 : FR X n g w2 fr ((a.put (some nx) (.tuple #[.bool true, e.key, e.val])).put (some ok) (.bool true)) := by
   have := hF3.put (d := some ok) (fun t e => by cases e; exact lk) (.und (X := X) (g := g) (w := w2) (.bool true))
   rwa [upd_und hok] at this
  have hit4 : ((a.put (some nx) (.tuple #[.bool true, e.key, e.val])).put (some ok) (.bool true)).tmps.getD it undef = .pointer (some ⟨r, 0, none⟩) := by
   rw [getD_put ne3, getD_put ne2]; exact hit
  refine wp_seq (wp_cond_true (getD_put_self (by rw [hF3.size]; exact lk)) (wp_skip ?_))
  generalize ((a.put (some nx) (.tuple #[.bool true, e.key, e.val])).put (some ok) (.bool true)) = a4 at hF4 hit4
  show Code.wp X.P _ _ _ _
  have hFr : FR X n g w2 (upd fr it (.hnd r)) a4 := ⟨hF4.size, fun t => by
   rw [upd_ite]
   split
   ·rename_i et; rw [et, hit4]; exact .hnd r
   ·exact hF4.at_ t, hF4.defers⟩
  refine wp_block (wp_seq (wp_region ?_))
  rw [s7]
  simp only [wpOps, e70, want7, if_true]
  left
  unfold Oper.wp
  have x7 : (execOp a4.eval o7).run X.P w2 = .ok (.value (.tuple #[e.key, e.val])) w2 := by
   have : a4.eval (.tmp it) = .pointer (some ⟨r, 0, none⟩) := hit4
   have hent := run_entry_at (P := X.P) w2 r bm clock seen es clock e hr' hbm2 (mem_left he).1 hn
   cases o7 with
   | mk dst op ty pos after guard =>
    simp only at p7
    subst p7
    simp [execOp, this, hent]
  rw [x7, Oper.upon_value, d7]
  have hF5 := hFr.put (d := some en) (fun t e => by cases e; exact le') (VR.tup (X := X) (g := g) (w := w2) [k, v] #[e.key, e.val] rfl (fun j c u h1 h2 => by
   match j with
   | 0 => simp at h1 h2; subst h1; subst h2; exact hk2
   | 1 => simp at h1 h2; subst h1; subst h2; exact hv2
   | j + 2 => simp at h1))
  generalize (a4.put (some en) (.tuple #[e.key, e.val])) = a5 at hF5
  have hfits : Fits X n ops7 (List.range' 1 r7.length) post := fits_of_chk 1 (fun j => by rw [← Array.getElem?_toList, h7, Nat.add_comm 1 j]; rfl) hc7
  have hrun := ops_sim_app (l2 := []) (Q := Exit.then (B.wp X.P (Exit.inBlock m1 (Exit.then (InLoop X.P (.seq (.region id6 ops6 false) (.seq (.cond (.tmp ok) .skip (.exit m)) (.block m1 (.seq (.region id7 ops7 false) B)))) (Exit.inBlock m Q)) (Exit.inBlock m Q)))) (Exit.inBlock m1 (Exit.then (InLoop X.P (.seq (.region id6 ops6 false) (.seq (.cond (.tmp ok) .skip (.exit m)) (.block m1 (.seq (.region id7 ops7 false) B)))) (Exit.inBlock m Q)) (Exit.inBlock m Q))))
   hX.ty hX.meth (cval_ok hX) hfits hS2 hF5 hpost (fun g3 w3 a3 hle3 hS3 hF3' => by
    simp only [wpOps]
    show Code.wp X.P B _ _ _
    refine wp_mono (hW n B hcB g3 w3 a3 hS3 hF3') fun x a' w' hx => ?_
    cases x with
    | normal =>
     obtain ⟨g', fr', S', q1, q2, q3, q4, q5, q6⟩ := hx
     show InLoop X.P _ _ _ _
     have hle4 := hle3.trans q1
     obtain ⟨hpr4, hr4⟩ := hpr2.le hle4
     obtain ⟨hmf4, hbm4⟩ := hle4.mf bm es clock hmf hbm2
     have hit' : a'.tmps.getD it undef = .pointer (some ⟨r, 0, none⟩) := by
      have rit := q3.at_ it
      rw [q5] at rit
      generalize a'.tmps.getD it undef = u at rit
      cases rit
      rfl
     exact ih rem' (seen.push e.born) g' w' a' (clrs l fr') S' hrem2 (hle2.trans hle4) q2 (q3.clrs l) hit' (by rw [hr4]; exact hr') hbm4 hmf4 hpr4 (hp2.mono hle4) (clrs_in nx l fr' i2) (clrs_in ok l fr' i3) q6
    | exit j => obtain ⟨_, _, _, _, _, _, q4, _⟩ := hx; cases q4
    | ret => obtain ⟨_, _, _, _, _, _, q4, _⟩ := hx; cases q4
    | panic ch => obtain ⟨_, _, _, _, _, _, _, _, _, _, q4, _⟩ := hx; cases q4
    | goto j => exact hx.elim
    | outgrown => exact hx.elim)
  rw [List.append_nil] at hrun
  exact hrun

theorem W_rng (hX : TieOk X) {pre : List POper} {x : Opd} {en : Nat} {post : List POper} {l : List (Nat × Nat)} {b : PCode} {Post : Wx → Fr → St → Prop} {fr1 : Fr} {S1 : St} {id : Nat} {cs : List PV}
  (hpre : pops X.T (cval X.T) pre fr S = some (fr1, S1)) (hx : ev fr1 x = .map id) (hcs : S1.objs[id]? = some cs) (hev : cs.length % 2 = 0)
  (h : RgW X (itOf l) en post l b (fun fr' S' => Post .norm fr' (unmk id cs S')) (entsOf cs).length (entsOf cs) (clrs l fr1) (unmk id (cs ++ [.und]) S1)) : W X (.rng pre x en post l b) fr S Post := by
 intro n c hc g w a hS hF
 have hc : chkRngW X n (fun B => chkCodeW X n B b) c pre x en post l = true := by cases c <;> exact hc
 unfold chkRngW at hc
 split at hc
 ·rename_i i5 ops5 m i6 ops6 ok m' m1 i7 ops7 B _
  split at hc
  ·rename_i o5 o6 o6b o7 r7 e5 e6 e7
   split at hc
   ·rename_i it t xo nx it1 nx1 it2 d5 p5 d6 p6 p6b p7
    simp only [Bool.and_eq_true, Option.isNone_iff_eq_none, beq_iff_eq, bne_iff_ne, ne_eq, decide_eq_true_eq] at hc
    obtain ⟨⟨⟨⟨⟨⟨⟨⟨⟨⟨⟨⟨⟨⟨⟨⟨⟨⟨⟨⟨⟨⟨⟨⟨⟨⟨⟨⟨g5, g6⟩, g6b⟩, g7⟩, d6b⟩, d7⟩, rfl⟩, rfl⟩, rfl⟩, rfl⟩, hc5⟩, hxo⟩, ht⟩, hc7⟩, hcB⟩, hit0⟩, _⟩, _⟩, li⟩, ln⟩, lk⟩, le'⟩, i1⟩, i2⟩, i3⟩, ne1⟩, ne2⟩, ne3⟩, ne4⟩ := hc
    rw [← hit0] at h
    obtain ⟨kt, et, hmt⟩ : ∃ kt et, X.P.underlying t = some (.map kt et) := by
     unfold isMapT at ht
     split at ht
     ·rename_i kt et h; exact ⟨kt, et, h⟩
     ·cases ht
    have hl5 : ops5.toList = ops5.toList.dropLast ++ [o5] := by
     obtain ⟨ys, hys⟩ := List.getLast?_eq_some_iff.1 e5
     rw [hys]; simp
    have hsz5 : ops5.size = ops5.toList.dropLast.length + 1 := by
     rw [← Array.length_toList]
     conv => lhs; rw [hl5]
     simp
    have hk5 : ops5[ops5.toList.dropLast.length]? = some o5 := by
     rw [← Array.getElem?_toList]
     conv => lhs; rw [hl5]
     simp
    have want5 : ∀ y, Region.wanted o5 y = true := fun y => by simp [Region.wanted, g5]
    refine wp_seq (wp_region ?_)
    rw [hsz5, List.range_succ, List.range_eq_range']
    refine ops_sim_app hX.ty hX.meth (cval_ok hX) (fits_of_chk' 0 (fun j hj => ?_) hc5) hS hF hpre (fun g1 w1 a1 hle1 hS1 hF1 => ?_)
    ·rw [Nat.zero_add, ← Array.getElem?_toList]
     conv => rhs; rw [hl5]
     rw [List.getElem?_append_left hj]
    ·simp only [wpOps, hk5, want5, if_true]
     left
     unfold Oper.wp
     have rx := opd_sim hF1 hxo
     rw [hx] at rx
     generalize hu : a1.eval xo = u at rx
     cases rx
     rename_i bm hbm
     obtain ⟨cs', es, clock, k1, k2, k3, k4⟩ := hS1.maps.ent id bm hbm
     rw [hcs] at k1; cases k1
     have hnf := not_mfz hS1 hbm hcs hev
     have x5 : (execOp a1.eval o5).run X.P w1 = .ok (.value (.pointer (some ⟨w1.heap.size, 0, none⟩))) (w1.alloc (.mapIter (some bm) clock #[] clock)) := by
      have hrg := range_run (X := X) hmt k2
      cases o5 with
      | mk dst op ty pos after guard =>
       simp only at p5
       subst p5
       simp [execOp, hu, hrg]
     rw [x5, Oper.upon_value, d5]
     obtain ⟨hleM, hSM⟩ := mark_sr hS1 hbm hcs hev
     have hB : Below w1.heap.size w1 (w1.alloc (.mapIter (some bm) clock #[] clock)) := (Below.refl _ w1).alloc (Nat.le_refl _) _
     have hleB := le_below hSM hB
     have hS2 := sr_below hSM hB
     have hle2 := hleM.trans hleB
     have hF2 := hF1.mono hle2
     have hF3 := (hF2.clrs l).size
     show Code.wp X.P _ _ _ _
     have hFc : FR X n { g1 with mfz := fun b => b == bm || g1.mfz b } (w1.alloc (.mapIter (some bm) clock #[] clock)) (clrs l fr1) (a1.put (some it2) (.pointer (some ⟨w1.heap.size, 0, none⟩))) := by
      refine ⟨by simp [Act.put, hF2.size], fun t => ?_, (hF2.clrs l).defers⟩
      by_cases e : t = it2
      ·subst e
       rw [clrs_in _ l fr1 i1]
       exact .und _
      ·rw [getD_put e]; exact (hF2.clrs l).at_ t
     have hbml := (Array.getElem?_eq_some_iff.1 k2).1
     refine wp_block (wp_loop_in ?_)
     refine rng_roundsW hX (es := es) (clock := clock) (bm := bm) (r := w1.heap.size) (w0 := w1) (g0 := { g1 with mfz := fun b => b == bm || g1.mfz b }) (Post := fun fr' S' => Post .norm fr' (unmk id cs S')) e6 e7 g6 g6b g7 d6 d6b d7 p6 p6b p7 hc7 hcB ln lk le' i1 i2 i3 ne1 ne2 ne3 ne4 (Nat.le_refl _) k3.2.1 k3.1
      (fun g' w' a' fr' S' h1 h2 h3 h4 h5 => ?_) (entsOf cs).length (entsOf cs) #[] _ _ _ _ _ rfl hleB hS2 hFc (getD_put_self (by rw [hF2.size]; exact li)) (heap_alloc_new w1 _) (by rw [hB.block bm hbml]; exact k2) (by simp) ⟨by simp, fun i e => ?_, ?_, fun i e => ?_⟩ ?_ (clrs_in _ l fr1 i2) (clrs_in _ l fr1 i3) h
     ·have hid' : g'.mp id = some bm := h1.mp id bm hbm
      have hmr : MR X g' w' cs es.toList := k4.imp fun c u q => q.mono (hleM.trans h1)
      refine ⟨{ g' with mfz := fun b => b != bm && g'.mfz b }, fr', unmk id cs S', ?_, unmark_sr h2 hid' h4 hmr, ⟨h3.size, fun t => (h3.at_ t).mfz _, h3.defers⟩, h5⟩
      refine hle1.trans ?_
      have hq := hleM.trans h1
      exact ⟨hq.os, hq.tape, hq.output, hq.size, hq.obj, hq.arr, hq.asz, hq.pub, hq.cell, hq.shape, hq.objN, hq.arrN, hq.keep, hq.pubN, hq.mp, hq.mpN, fun b' es' c' m1 m2 => by
       obtain ⟨r1, r2⟩ := hq.mf b' es' c' m1 m2
       refine ⟨?_, r2⟩
       have : b' ≠ bm := fun e => by subst e; rw [hnf] at m1; cases m1
       simp [this, r1]⟩
     ·have := obj_lt hS1 i _ e; omega
     ·exact (hS1.lt _ (Nat.le_refl _)).2
     ·have := hS1.maps.lt e; omega
     ·have : (leftOf es #[]).toList = es.toList := by simp [leftOf]
      rw [this]
      exact PairsR.of (k4.imp fun c u q => q.mono hle2)
   ·cases hc
  ·cases hc
 ·cases hc

def chkFnW (X : Tie) (fn : Func) (c : PCodeFn) : Bool :=
 (match fn.body with | some b => chkCodeW X (c.params + (fn.ntmps - c.params)) b c.body | none => false) && fn.name != "runtime.NumGoroutine" && chkRes X fn.results.toList c.results

theorem W_fn (hX : TieOk X) {f : Nat} {fn : Func} {c : PCodeFn} (hf : X.P.funcs[X.fnOf f]? = some fn) (hc : chkFnW X fn c = true) {args : List PV} (ha : args.length = c.params) {R : Rs → Prop}
  (h : W X c.body (argsFr args) S (fun e fr' S1 => match e with
   | .exit _ => False
   | .pan v => R (.pan (finish c.raw S S1 v).1 (finish c.raw S S1 v).2)
   | _ => ∃ vs, resAll fr' S1 c.results = some vs ∧ R (.ret (finish c.raw S S1 (packed vs)).1 (finish c.raw S S1 (packed vs)).2))) : WSpec X f args S R := by
 intro g w us hS hV
 simp only [chkFnW, Bool.and_eq_true, bne_iff_ne, ne_eq] at hc
 obtain ⟨⟨hb, hname⟩, hr⟩ := hc
 split at hb
 ·rename_i body hbody
  refine ⟨callFunc_code hf hname hbody, calls_of_wp hf hbody ?_⟩
  have hF := enter_fr (fn := fn) hV ha
  refine wp_mono (h ⟨c.params + (fn.ntmps - c.params), []⟩ body hb g w _ hS hF) fun e a' w' he => ?_
  have fin : ∀ (g' : Gh) (fr' : Fr) (S1 : St), Le g w g' w' → SR X g' S1 w' → FR X ⟨c.params + (fn.ntmps - c.params), []⟩ g' w' fr' a' →
    (∃ vs, resAll fr' S1 c.results = some vs ∧ R (.ret (finish c.raw S S1 (packed vs)).1 (finish c.raw S S1 (packed vs)).2)) → a'.defers = [] ∧ ∃ v, (results fn a'.tmps).run X.P w' = .ok v w' ∧ wpost X g w R (.returned v) w' := by
   rintro g' fr' S1 hle hS1 hF1 ⟨vs, k1, k2⟩
   obtain ⟨u, q1, q2⟩ := results_run hS1 hF1 hr k1
   exact ⟨hF1.defers, u, q1, _, _, k2, finish_sim (raw := c.raw) hS hle hS1 q2⟩
  cases e with
  | normal =>
   obtain ⟨g', fr', S1, h1, h2, h3, h4⟩ := he
   exact fin g' fr' S1 h1 h2 h3 h4
  | ret =>
   obtain ⟨g', fr', S1, h1, h2, h3, h4⟩ := he
   exact fin g' fr' S1 h1 h2 h3 h4
  | exit m => obtain ⟨g', fr', S1, h1, h2, h3, h4⟩ := he; exact h4.elim
  | panic ch =>
   obtain ⟨g', fr', S1, v, u, rfl, h1, h2, h3, h4, h5⟩ := he
   exact ⟨h3.defers, _, _, u, rfl, h5, finish_sim (raw := c.raw) hS h1 h2 h4⟩
  | goto j => exact he.elim
  | outgrown => exact he.elim
 ·cases hb

theorem calls_trueW (hX : TieOk X) {f : Nat} {args : List PV} (h : WSpec X f args St0 (fun r => ∃ S', r = .ret (.bool true) S')) {p : Nat → Nat} {w : World} (hp : ∀ b, w.heap.size ≤ b → p b = 0) {us : Array Value} (hV : VRL X (gh0 p) w args us) :
  Calls X.P (X.fnOf f) us w fun e w' => e = .returned (.bool true) ∧ Kept w w' := by
 refine ((h (gh0 p) w us (sr0 hp) hV).2).mono fun e w' he => ?_
 cases e with
 | returned u =>
  obtain ⟨v, S', ⟨S1, h1⟩, g', hle, _, hr⟩ := he
  cases h1
  cases hr
  exact ⟨rfl, kept_of_le hle⟩
 | panicked ch => obtain ⟨v, S', u, _, ⟨S1, h1⟩, _⟩ := he; cases h1
 | outgrown => exact he.elim

end
end Ps
