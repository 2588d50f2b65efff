/- The disk: Crash's second loop: files are cut. -/
import Derived.Test.YtidloidlffjimaaDI
namespace Ps
set_option linter.unusedSimpArgs false
set_option linter.unusedVariables false
open Go
def okE (x : Ent) (l : List (Nm × Nat)) : Prop := x.2.2 = none → (lk x.1 l).isSome = true
def okA : List Ent → List (Nm × Nat) → Prop
 | [], _ => True
 | x :: xs, l => okE x l ∧ okA xs (doE x l)
def doA : List Ent → List (Nm × Nat) → List (Nm × Nat)
 | [], l => l
 | x :: xs, l => doA xs (doE x l)

theorem doA_app : ∀ (a b : List Ent) (l : List (Nm × Nat)), doA (a ++ b) l = doA b (doA a l)
 | [], b, l => rfl
 | x :: a, b, l => doA_app a b _
theorem okA_app : ∀ (a b : List Ent) (l : List (Nm × Nat)), okA (a ++ b) l ↔ okA a l ∧ okA b (doA a l)
 | [], b, l => by simp [okA, doA]
 | x :: a, b, l => by simp only [List.cons_append, okA, doA, okA_app a b _, and_assoc]
theorem Hist.okA {b l : List (Nm × Nat)} {w : List Ent} (h : Hist b w l) : Ps.okA w b ∧ l = doA w b := by
 induction h with
 | nil => exact ⟨trivial, rfl⟩
 | snoc w l x _ hx ih =>
  obtain ⟨i1, i2⟩ := ih
  rw [okA_app, doA_app, ← i2]
  exact ⟨⟨i1, hx, trivial⟩, rfl⟩
theorem HistP.okA {b m : List (Nm × Nat)} {w : List Ent} (h : HistP b w m) : Ps.okA w b ∧ (doA w b).Perm m := by
 obtain ⟨_, l, h2, h3⟩ := h
 obtain ⟨k1, k2⟩ := h2.okA
 exact ⟨k1, k2 ▸ h3⟩
theorem hist_of {b : List (Nm × Nat)} : ∀ (xs w : List Ent) (l : List (Nm × Nat)), Hist b w l → okA xs l → Hist b (w ++ xs) (doA xs l)
 | [], w, l, h, _ => by rw [List.append_nil]; exact h
 | x :: xs, w, l, h, hx => by
  have := hist_of xs (w ++ [x]) (doE x l) (.snoc _ _ _ _ h hx.1) hx.2
  rw [List.append_assoc] at this
  exact this
theorem okA_take {w : List Ent} {l : List (Nm × Nat)} (h : okA w l) (k : Nat) : okA (w.take k) l := by
 rw [← List.take_append_drop k w, okA_app] at h
 exact h.1
def dirAt (D : Dk) (k : Nat) : List (Nm × Nat) := doA (D.wait.take k) D.base
theorem At.histK {S : St} {o K : Nat} {D : Dk} (h : At S o K D) (k : Nat) : Hist D.base (D.wait.take k) (dirAt D k) := by
 have := hist_of (D.wait.take k) [] D.base (.nil _) (okA_take h.hist.okA.1 k)
 rw [List.nil_append] at this
 exact this
theorem At.dirF {S : St} {o K : Nat} {D : Dk} (h : At S o K D) (k : Nat) : ∀ p ∈ dirAt D k, p.2 ∈ D.fl := (h.histK k).files h.inb (fun x hx f hf => h.inw x (List.mem_of_mem_take hx) f hf)
theorem At.dirN {S : St} {o K : Nat} {D : Dk} (h : At S o K D) (k : Nat) : ∀ p ∈ dirAt D k, p.1.length ≤ 24 := (h.histK k).names h.nb (fun x hx => h.nw x (List.mem_of_mem_take hx))
theorem At.dirNd {S : St} {o K : Nat} {D : Dk} (h : At S o K D) (k : Nat) : Nd (dirAt D k) := (h.histK k).nd h.hist.1
theorem At.dirL {S : St} {o K : Nat} {D : Dk} (h : At S o K D) (k : Nat) : (dirAt D k).length ≤ K := by
 have h1 := (h.histK k).len
 have h2 := h.cnt
 have h3 : (D.wait.take k).length ≤ D.wait.length := by rw [List.length_take]; omega
 omega

theorem crash_l0 {o : Nat} {D : Dk} (hne : o ≠ D.bi) {K : List Kt} {Q : Fr → St → Prop} {ws : List Ent} {v : PV} (hv : Reads1 3 v (ws.map entV)) (hl : ws.length ≤ 1048576) :
  ∀ (rest pre : List Ent), ws = pre ++ rest → ∀ (l : List (Nm × Nat)) (fr : Fr) (S : St), okA rest l → S.objs[o]? = some (dcells D) → S.objs[D.bi]? = some (mcells l) →
  fr 0 = .ptr o 0 → fr 36 = v → fr 37 = .int .i64 ws.length → fr 38 = .int .i64 pre.length →
  (∀ fr' S', fr' 0 = fr 0 ∧ fr' 2 = fr 2 → S'.tips = S.tips → S'.objs[D.bi]? = some (mcells (doA rest l)) → (∀ (i : Nat) (c : List PV), i ≠ D.bi → S.objs[i]? = some c → S'.objs[i]? = some c) → Ok (gval T K fr' S') Q) →
  Ok (gval T (.lp disk_Disk_Crash_l0 :: .blk 0 :: K) fr S) Q := by
 intro rest
 induction rest with
 | nil =>
  intro pre hp l fr S hok ho hb h0 h36 h37 h38 k
  rw [List.append_nil] at hp; subst hp
  rw [gval_lp]
  simp [h36, h37, h38]
  exact k _ _ (by simp) rfl hb (fun _ _ _ h => h)
 | cons x rest ih =>
  intro pre hp l fr S hok ho hb h0 h36 h37 h38 k
  have hi : pre.length < ws.length := by rw [hp]; simp
  have hg := hv.get pre.length (by simpa using hi) .i64
  have hgx : (ws.map entV)[pre.length]'(by simpa using hi) = entV x := by simp [hp]
  rw [hgx, entV_cells] at hg
  have hw := wrap_len (a := pre.length) (by omega)
  obtain ⟨S1, hS1⟩ : ∃ S1 : St, S1 = ⟨S.objs ++ [[.str x.1, .str x.2.1, fptr x.2.2]], S.tips⟩ := ⟨_, rfl⟩
  have hgrow : ∀ {i : Nat} {c : List PV}, S.objs[i]? = some c → S1.objs[i]? = some c := fun {i c} hc => by rw [hS1]; simp only; rw [List.getElem?_append_left (List.getElem?_eq_some_iff.1 hc).1]; exact hc
  have ho1 := hgrow ho
  have hb1 := hgrow hb
  have hdo := do_val hb1 ho1 hne (dcells_free _) x hok.1
  simp only [entV] at hdo
  have ho1' := ho1
  simp only [dcells] at ho1'
  have hnew : S1.objs[S.objs.length]? = some [.str x.1, .str x.2.1, fptr x.2.2] := by rw [hS1]; simp
  have hL : ∀ fr', fr' 0 = fr 0 ∧ fr' 2 = fr 2 → fr' 36 = v → fr' 37 = .int .i64 ws.length → fr' 38 = .int .i64 ((pre.length + 1 : Nat) : Int) →
    Ok (gval T (.lp disk_Disk_Crash_l0 :: .blk 0 :: K) fr' ⟨S1.objs.set D.bi (mcells (doE x l)), S1.tips⟩) Q := by
   intro fr' g0 g36 g37 g38
   refine ih (pre ++ [x]) (by simp [hp]) (doE x l) fr' _ hok.2 (by simp only; rw [List.getElem?_set_ne (Ne.symm hne)]; exact ho1) (get_set hb1) (by rw [g0.1]; exact h0) g36 g37 (by simpa using g38) ?_
   intro fr2 S2 q0 q1 q2 q3
   refine k fr2 S2 ⟨q0.1.trans g0.1, q0.2.trans g0.2⟩ (by rw [q1, hS1]) q2 (fun i c hi hc => ?_)
   refine q3 i c hi ?_
   simp only
   rw [List.getElem?_set_ne (Ne.symm hi)]
   exact hgrow hc
  clear k ih
  rw [gval_lp]
  simp -implicitDefEqProofs [h0, h36, h37, h38, hi, hg, part3, pstep, newObj, putCells, ← hS1, loadP_ptr hnew, loadP_ptr ho1', hdo]
  exact hL _ (by simp) (by simp [h36]) (by simp [h37]) (by simp [hw])

theorem u64w (n : Int) : IntKind.u64.wrap n = n % 18446744073709551616 := by simp [IntKind.wrap, IntKind.bits, IntKind.signed]
theorem u64_nn (n : Int) : 0 ≤ IntKind.u64.wrap n := by rw [u64w]; omega
theorem u64_mod (n : Int) (m : Nat) : (IntKind.u64.wrap n).tmod ((m : Int) + 1) = (((IntKind.u64.wrap n).toNat % (m + 1) : Nat) : Int) := by
 have h := u64_nn n
 rw [Int.tmod_eq_emod_of_nonneg h]
 push_cast
 rw [Int.toNat_of_nonneg h]

structure Fl (S : St) (D : Dk) : Prop where
 file : ∀ f ∈ D.fl, S.objs[f]? = some [D.fv f, .int .i64 (D.fs f)] ∧ SlT S 1 (D.fv f) (ofBytes (D.fb f)) ∧ D.fs f ≤ (D.fb f).length ∧ ((D.fb f).length : Int) ≤ D.room
 tf : ∀ f ∈ D.fl, ∀ g ∈ D.fl, f ≠ g → ∀ k, tid (D.fv f) = some k → tid (D.fv g) ≠ some k

theorem slc3_nils {S : St} {sz : Nat} : slc3P S sz none (.int .i64 (0 : Nat)) (.int .i64 (0 : Nat)) .nils = some (.nils, S) := rfl
theorem slc3_sl {S : St} {sz : Nat} {tip : Nat × Nat} {es : List PV} {k : Nat} (hz : szOk sz es = true) (hs : 0 < sz) (hk : k ≤ es.length) :
  slc3P S sz none (.int .i64 (k : Int)) (.int .i64 (k : Int)) (.sl (some tip) es []) = some (.sl (some (S.tips.length, k)) (es.take k) [], ⟨S.objs, S.tips ++ [(k, sz)]⟩) := by
 have h1 : (0 : Int) ≤ k ∧ (k : Int) ≤ ((es.length : Nat) : Int) := by omega
 simp [slc3P, hz, hs, bound, loOf, hk]

theorem Fl.cut {S : St} {D : Dk} (h : Fl S D) {f : Nat} (hf : f ∈ D.fl) {k : Nat} (hk : k ≤ (D.fb f).length) :
  ∃ v' tips', slc3P S 1 none (.int .i64 (k : Int)) (.int .i64 (k : Int)) (D.fv f) = some (v', ⟨S.objs, tips'⟩) ∧ v'.cells = [v'] ∧ v'.one = true ∧ Fl ⟨S.objs.set f [v', .int .i64 (k : Int)], tips'⟩ (setF D f v' ((D.fb f).take k) k) ∧
   S.tips.length ≤ tips'.length ∧ (∀ i, i < S.tips.length → tips'[i]? = S.tips[i]?) ∧ (∀ j, tid v' = some j → S.tips.length ≤ j) := by
 obtain ⟨ho, hsl, hs, hr⟩ := h.file f hf
 have key : ∀ (v' : PV) (tips' : List (Nat × Nat)), SlT ⟨[], tips'⟩ 1 v' (ofBytes ((D.fb f).take k)) → (∀ i, i < S.tips.length → tips'[i]? = S.tips[i]?) → (∀ j, tid v' = some j → S.tips.length ≤ j) → Fl ⟨S.objs.set f [v', .int .i64 (k : Int)], tips'⟩ (setF D f v' ((D.fb f).take k) k) := by
  intro v' tips' hw ht hj
  refine ⟨fun g hg => ?_, fun g hg i hi hgi j hgj => ?_⟩
  ·by_cases e : g = f
   ·subst e
    simp only [setF, if_true]
    refine ⟨get_set ho, hw.of (fun _ _ => rfl), by rw [List.length_take]; omega, ?_⟩
    rw [List.length_take]; omega
   ·simp only [setF, if_neg e]
    obtain ⟨g1, g2, g3⟩ := h.file g hg
    exact ⟨by rw [List.getElem?_set_ne (Ne.symm e)]; exact g1, g2.of (fun j hj' => ht j (g2.tip hj')), g3⟩
  ·by_cases e : g = f
   ·subst e
    simp only [setF, if_true] at hgj
    simp only [setF, if_neg (Ne.symm hgi)]
    intro hq
    have := (h.file i hi).2.1.tip hq
    have := hj j hgj
    omega
   ·simp only [setF, if_neg e] at hgj
    by_cases e2 : i = f
    ·subst e2
     simp only [setF, if_true]
     intro hq
     have := (h.file g hg).2.1.tip hgj
     have := hj j hq
     omega
    ·simp only [setF, if_neg e2]; exact h.tf g hg i hi hgi j hgj
 rcases hsl with ⟨hv, hn⟩ | ⟨i, e, hv, ht⟩
 ·have hb : D.fb f = [] := by simpa [ofBytes] using hn
  have hk0 : k = 0 := by rw [hb] at hk; simpa using hk
  subst hk0
  refine ⟨.nils, S.tips, by rw [hv]; exact slc3_nils, rfl, rfl, key _ _ (.inl ⟨rfl, by simp [ofBytes]⟩) (fun _ _ => rfl) (fun j hj => by simp [tid] at hj), Nat.le_refl _, fun _ _ => rfl, fun j hj => by simp [tid] at hj⟩
 ·have hl : (ofBytes (D.fb f)).length = (D.fb f).length := by simp [ofBytes]
  have h1 : ∀ i, i < S.tips.length → (S.tips ++ [(k, 1)])[i]? = S.tips[i]? := fun i hi => List.getElem?_append_left hi
  have h2 : ∀ j, tid (.sl (some (S.tips.length, k)) ((ofBytes (D.fb f)).take k) []) = some j → S.tips.length ≤ j := fun j hj => by simp only [tid, Option.some.injEq] at hj; omega
  refine ⟨_, _, by rw [hv]; exact slc3_sl (oB_cells _) (by omega) (by omega), rfl, rfl, key _ _ (.inr ⟨S.tips.length, k, by simp [ofBytes, List.map_take], by simp⟩) h1 h2, by simp, h1, h2⟩

def kOf (kept : List Int) (i : Nat) (b : List UInt8) (s : Nat) : Nat := if h : i < kept.length then s + (IntKind.u64.wrap kept[i]).toNat % (b.length - s + 1) else s
theorem kOf_ge (kept : List Int) (i : Nat) (b : List UInt8) (s : Nat) : s ≤ kOf kept i b s := by
 unfold kOf; split <;> omega
theorem kOf_le (kept : List Int) (i : Nat) (b : List UInt8) (s : Nat) (h : s ≤ b.length) : kOf kept i b s ≤ b.length := by
 unfold kOf; split
 ·have := Nat.mod_lt (IntKind.u64.wrap kept[i]).toNat (y := b.length - s + 1) (by omega)
  omega
 ·exact h

def cutS (l : List (Nm × Nat)) (kept : List Int) : Nat → List Nm → (Nat → List UInt8) → (Nat → Nat) → (Nat → List UInt8) × (Nat → Nat)
 | _, [], fb, fs => (fb, fs)
 | i, n :: ns, fb, fs => match lk n l with
  | some f => cutS l kept (i + 1) ns (fun g => if g = f then (fb f).take (kOf kept i (fb f) (fs f)) else fb g) (fun g => if g = f then kOf kept i (fb f) (fs f) else fs g)
  | none => cutS l kept (i + 1) ns fb fs

theorem crash_l1 {o : Nat} {l : List (Nm × Nat)} {K : List Kt} {Q : Fr → St → Prop} {ns : List Nm} {v kv : PV} {kept : List Int} (hv : Reads1 1 v (ns.map .str)) (hkv : Reads1 1 kv (kept.map (.int .i64))) (hl : ns.length ≤ 1048576) :
  ∀ (rest pre : List Nm), ns = pre ++ rest → (∀ n ∈ rest, (lk n l).isSome = true) → ∀ (D : Dk) (fr : Fr) (S : St), S.objs[o]? = some (dcells D) → S.objs[D.bi]? = some (mcells l) → Fl S D → (∀ p ∈ l, p.2 ∈ D.fl) → (∀ f ∈ D.fl, f ≠ o ∧ f ≠ D.bi) → D.room ≤ 4194304 →
  fr 0 = .ptr o 0 → fr 2 = kv → fr 54 = v → fr 55 = .int .i64 ns.length → fr 56 = .int .i64 pre.length →
  (∀ fr' S' fv', fr' 0 = fr 0 → Fl S' { D with fb := (cutS l kept pre.length rest D.fb D.fs).1, fs := (cutS l kept pre.length rest D.fb D.fs).2, fv := fv' } → (∀ (i : Nat), i ∉ D.fl → S'.objs[i]? = S.objs[i]?) → S.tips.length ≤ S'.tips.length → (∀ i, i < S.tips.length → S'.tips[i]? = S.tips[i]?) →
   (∀ f ∈ D.fl, ∀ k, tid (fv' f) = some k → tid (D.fv f) = some k ∨ S.tips.length ≤ k) → Ok (gval T K fr' S') Q) →
  Ok (gval T (.lp disk_Disk_Crash_l1 :: .blk 2 :: K) fr S) Q := by
 intro rest
 induction rest with
 | nil =>
  intro pre hp hin D fr S ho hb hF hlf hnd hroom h0 h2 h54 h55 h56 k
  rw [List.append_nil] at hp; subst hp
  rw [gval_lp]
  simp [h54, h55, h56]
  exact k _ _ D.fv (by simp) hF (fun _ _ => rfl) (Nat.le_refl _) (fun _ _ => rfl) (fun f hf j hj => .inl hj)
 | cons n rest ih =>
  intro pre hp hin D fr S ho hb hF hlf hnd hroom h0 h2 h54 h55 h56 k
  have hi : pre.length < ns.length := by rw [hp]; simp
  have hg := hv.get pre.length (by simpa using hi) .i64
  have hgx : (ns.map PV.str)[pre.length]'(by simpa using hi) = .str n := by simp [hp]
  rw [hgx, cells_str] at hg
  have hw := wrap_len (a := pre.length) (by omega)
  obtain ⟨f, hlk⟩ := Option.isSome_iff_exists.1 (hin n (by simp))
  have hfind := mfind_mc n l
  rw [hlk] at hfind
  have hfm : f ∈ D.fl := hlf _ (lk_mem hlk)
  obtain ⟨hfo, hsl, hs, hr⟩ := hF.file f hfm
  have hfl := len_slt hsl
  rw [oB_len] at hfl
  have hkl := kOf_le kept pre.length (D.fb f) (D.fs f) hs
  obtain ⟨v', tips', c1, c2, c3, c4, c5, c6, c7⟩ := hF.cut hfm hkl
  have hob := ho
  simp only [dcells] at hob
  have hL : ∀ fr', fr' 0 = fr 0 → fr' 2 = fr 2 → fr' 54 = fr 54 → fr' 55 = fr 55 → fr' 56 = .int .i64 ((pre.length + 1 : Nat) : Int) →
    Ok (gval T (.lp disk_Disk_Crash_l1 :: .blk 2 :: K) fr' ⟨S.objs.set f [v', .int .i64 (kOf kept pre.length (D.fb f) (D.fs f) : Int)], tips'⟩) Q := by
   intro fr' g0 g2 g54 g55 g56
   refine ih (pre ++ [n]) (by simp [hp]) (fun m hm => hin m (by simp [hm])) (setF D f v' ((D.fb f).take (kOf kept pre.length (D.fb f) (D.fs f))) (kOf kept pre.length (D.fb f) (D.fs f))) fr' _ ?_ ?_ c4 hlf hnd hroom (by rw [g0, h0]) (by rw [g2, h2]) (by rw [g54, h54]) (by rw [g55, h55]) (by simpa using g56) ?_
   ·simp only; rw [List.getElem?_set_ne (hnd f hfm).1]; exact ho
   ·show (S.objs.set f _)[D.bi]? = _; rw [List.getElem?_set_ne (hnd f hfm).2]; exact hb
   ·intro fr2 S2 fv2 q0 q1 q2 q3 q4 q5
    refine k fr2 S2 fv2 (q0.trans g0) ?_ (fun i hi => ?_) (Nat.le_trans c5 q3) (fun i hi => (q4 i (by simp only; omega)).trans (c6 i hi)) (fun g hg j hj => ?_)
    ·simp only [cutS, hlk]
     simp only [List.length_append, List.length_cons, List.length_nil] at q1
     exact q1
    ·rw [q2 i hi]
     simp only
     rw [List.getElem?_set_ne (fun e => hi (by rw [← e]; exact hfm))]
    ·rcases q5 g hg j hj with q | q
     ·simp only [setF] at q
      split at q
      ·exact .inr (c7 j q)
      ·exact .inl q
     ·exact .inr (Nat.le_trans c5 q)
  clear k ih
  have hset : ∀ kk : Int, ((S.objs.set f [v', .int .i64 (D.fs f : Int)]).set f [v', .int .i64 kk]) = S.objs.set f [v', .int .i64 kk] := fun kk => by rw [List.set_set]
  rw [gval_lp]
  simp -implicitDefEqProofs [h0, h2, h54, h55, h56, hi, hg, pstep, loadP_ptr hob, hb, hfind, lookP, isKeyP, loadP_ptr hfo, hkv.len]
  refine ok_br (fun hlt => ?_) (fun hge => ?_)
  ·have hlt : pre.length < kept.length := by simpa using hlt
   have hgk := hkv.get pre.length (by simpa using hlt) .i64
   have hgx2 : (kept.map (PV.int .i64))[pre.length]'(by simpa using hlt) = .int .i64 kept[pre.length] := by simp
   rw [hgx2, cells_int] at hgk
   have hcast : ((D.fb f).length : Int) - (D.fs f : Int) = (((D.fb f).length - D.fs f : Nat) : Int) := by omega
   have w1 : IntKind.i64.wrap (((D.fb f).length : Int) - (D.fs f : Int)) = (((D.fb f).length - D.fs f : Nat) : Int) := by rw [wrap_i64 (by omega) (by omega), hcast]
   have w2 : IntKind.i64.wrap ((((D.fb f).length - D.fs f : Nat) : Int) + 1) = (((D.fb f).length - D.fs f : Nat) : Int) + 1 := wrap_i64 (by omega) (by omega)
   have w3 : IntKind.u64.wrap ((((D.fb f).length - D.fs f : Nat) : Int) + 1) = (((D.fb f).length - D.fs f : Nat) : Int) + 1 := by rw [u64w]; omega
   have w4 : ¬ ((((D.fb f).length - D.fs f : Nat) : Int) + 1 = 0) := by omega
   have hk : kOf kept pre.length (D.fb f) (D.fs f) = D.fs f + (IntKind.u64.wrap kept[pre.length]).toNat % ((D.fb f).length - D.fs f + 1) := by unfold kOf; rw [dif_pos hlt]
   obtain ⟨r, hr'⟩ : ∃ r : Nat, r = (IntKind.u64.wrap kept[pre.length]).toNat % ((D.fb f).length - D.fs f + 1) := ⟨_, rfl⟩
   rw [← hr'] at hk
   have hm := u64_mod kept[pre.length] ((D.fb f).length - D.fs f)
   rw [← hr'] at hm
   have w5 : IntKind.i64.wrap (r : Int) = (r : Int) := wrap_i64 (by omega) (by omega)
   have w6 : IntKind.i64.wrap ((D.fs f : Int) + (r : Int)) = ((kOf kept pre.length (D.fb f) (D.fs f) : Nat) : Int) := by rw [wrap_i64 (by omega) (by omega), hk]; push_cast; rfl
   simp -implicitDefEqProofs [h0, h2, h54, h55, h56, hi, hg, hgk, pstep, loadP_ptr hfo, hfl, w1, w2, w3, w4, hm, w5, w6, c1, c2, c3, hfo, putCells, get_set hfo]
   exact hL _ (by simp [h0]) (by simp [h2]) (by simp [h54]) (by simp [h55]) (by simp [hw])
  ·have hlt : ¬ pre.length < kept.length := by simpa using hge
   have hk : kOf kept pre.length (D.fb f) (D.fs f) = D.fs f := by unfold kOf; rw [dif_neg hlt]
   rw [hk] at c1 hL
   simp -implicitDefEqProofs [h0, h2, h54, h55, h56, hi, hg, pstep, loadP_ptr hfo, hfl, c1, c2, c3, hfo, putCells, get_set hfo]
   exact hL _ (by simp [h0]) (by simp [h2]) (by simp [h54]) (by simp [h55]) (by simp [hw])
end Ps
