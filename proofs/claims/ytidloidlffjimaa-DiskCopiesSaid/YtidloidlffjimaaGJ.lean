/- The disk in plain words and the document's: what a change does to both. -/
import Derived.Test.YtidloidlffjimaaGH
import Derived.Test.YtidloidlffjimaaPN
namespace Ps
set_option linter.unusedSimpArgs false
set_option linter.unusedVariables false
open Go
def ix (fl : List Nat) (f : Nat) : Int := ((fl.reverse.idxOf f : Nat) : Int)
theorem ix_nn (fl : List Nat) (f : Nat) : 0 ≤ ix fl f := by unfold ix; omega
theorem ix_nat (fl : List Nat) (f : Nat) : (ix fl f).toNat = fl.reverse.idxOf f := by unfold ix; omega
theorem ix_lt {fl : List Nat} {f : Nat} (h : f ∈ fl) : fl.reverse.idxOf f < fl.length := by
 have := List.idxOf_lt_length_of_mem (List.mem_reverse.2 h)
 simpa using this
theorem idx_inj {l : List Nat} {f g : Nat} (hf : f ∈ l) (hg : g ∈ l) (h : l.idxOf f = l.idxOf g) : f = g := by
 have h1 := List.getElem_idxOf (List.idxOf_lt_length_of_mem hf)
 have h2 := List.getElem_idxOf (List.idxOf_lt_length_of_mem hg)
 rw [← h1, ← h2]
 congr 1
theorem ix_old {fl : List Nat} {F f : Nat} (h : f ∈ fl) : (F :: fl).reverse.idxOf f = fl.reverse.idxOf f := by
 rw [List.reverse_cons, List.idxOf_append, if_pos (List.mem_reverse.2 h)]
theorem ix_new {fl : List Nat} {F : Nat} (h : F ∉ fl) : (F :: fl).reverse.idxOf F = fl.length := by
 rw [List.reverse_cons, List.idxOf_append, if_neg (by simpa using h)]
 simp

def FiR (fl : List Nat) (fb : Nat → List UInt8) (fs : Nat → Nat) (L : List RF) : Prop :=
 L.length = fl.length ∧ ∀ f ∈ fl, ∃ g, L[fl.reverse.idxOf f]? = some g ∧ g.b = fb f ∧ g.s = (fs f : Int)

theorem FiR.modify {fl : List Nat} {fb : Nat → List UInt8} {fs : Nat → Nat} {L : List RF} (h : FiR fl fb fs L) {f : Nat} (hf : f ∈ fl) {F : RF → RF} {b : List UInt8} {s : Nat} (hF : ∀ g : RF, g.b = fb f → g.s = (fs f : Int) → (F g).b = b ∧ (F g).s = (s : Int)) :
  FiR fl (fun g => if g = f then b else fb g) (fun g => if g = f then s else fs g) (L.modify (fl.reverse.idxOf f) F) := by
 refine ⟨by simpa using h.1, fun f' hf' => ?_⟩
 obtain ⟨g, h1, h2, h3⟩ := h.2 f' hf'
 by_cases e : f' = f
 ·subst e
  refine ⟨F g, by rw [List.getElem?_modify, h1]; simp, ?_⟩
  simpa using hF g h2 h3
 ·have hne : fl.reverse.idxOf f ≠ fl.reverse.idxOf f' := fun k => e (idx_inj (List.mem_reverse.2 hf') (List.mem_reverse.2 hf) k.symm)
  refine ⟨g, by rw [List.getElem?_modify, h1]; simp [hne], ?_⟩
  simpa [e] using ⟨h2, h3⟩
theorem FiR.add {fl : List Nat} {fb : Nat → List UInt8} {fs : Nat → Nat} {L : List RF} (h : FiR fl fb fs L) {F : Nat} (hF : F ∉ fl) :
  FiR (F :: fl) (fun f => if f = F then [] else fb f) (fun f => if f = F then 0 else fs f) (L ++ [⟨.nils, [], 0⟩]) := by
 refine ⟨by simp [h.1], fun f hf => ?_⟩
 by_cases e : f = F
 ·subst e
  refine ⟨⟨.nils, [], 0⟩, ?_, by simp, by simp⟩
  rw [ix_new hF, List.getElem?_append_right (by rw [h.1]; exact Nat.le_refl _), h.1]
  simp
 ·have hf : f ∈ fl := by
   rcases List.mem_cons.1 hf with k | k
   ·exact absurd k e
   ·exact k
  obtain ⟨g, h1, h2, h3⟩ := h.2 f hf
  refine ⟨g, ?_, by simpa [e] using h2, by simpa [e] using h3⟩
  rw [ix_old hf, List.getElem?_append_left (by rw [h.1]; exact ix_lt hf), h1]

structure RelD (D : Dk) (R : RD) : Prop where
 room : R.room = D.room
 left : R.left = D.left
 dark : R.dark = D.dark
 count : R.count = D.done
 nd : D.fl.Nodup
 fl : FiR D.fl D.fb D.fs R.files
 base : DR (ix D.fl) D.base R.base
 wait : R.wait = D.wait.map (stepOf (ix D.fl))
 nm : ∀ x ∈ D.wait, x.2.2 ≠ none → x.2.1 ≠ []

theorem DR.bd {fl : List Nat} {l : List (Nm × Nat)} {M : List RE} (h : DR (ix fl) l M) (hl : ∀ p ∈ l, p.2 ∈ fl) : ∀ e ∈ M, 0 ≤ e.2 ∧ e.2 < fl.length := by
 intro e he
 obtain ⟨p, hp, rfl⟩ := List.mem_map.1 (h.1.mem_iff.2 he)
 have := ix_lt (hl p hp)
 exact ⟨ix_nn _ _, by simp only [ix]; omega⟩

theorem rel_dir {S : St} {o K : Nat} {D : Dk} {R : RD} (h : At S o K D) (hr : RelD D R) (k : Nat) : DR (ix D.fl) (dirAt D k) (dirL R.base (R.wait.take k)) := by
 have h1 := okA_take h.hist.okA.1 k
 rw [hr.wait, ← List.map_take]
 exact hr.base.doA _ h1 fun x hx => hr.nm x (List.mem_of_mem_take hx)
theorem rel_live {S : St} {o K : Nat} {D : Dk} {R : RD} (h : At S o K D) (hr : RelD D R) : DR (ix D.fl) D.live (liveR R) := by
 have h1 := h.hist.okA
 unfold liveR
 rw [hr.wait]
 have h2 := hr.base.doA _ h1.1 hr.nm
 exact ⟨(h1.2.map _).symm.trans h2.1, h2.2⟩
theorem rel_bd {S : St} {o K : Nat} {D : Dk} {R : RD} (h : At S o K D) (hr : RelD D R) : ∀ e ∈ liveR R, 0 ≤ e.2 ∧ e.2 < R.files.length := by
 rw [hr.fl.1]
 exact (rel_live h hr).bd h.inl
theorem rel_bdk {S : St} {o K : Nat} {D : Dk} {R : RD} (h : At S o K D) (hr : RelD D R) (k : Nat) : ∀ e ∈ dirL R.base (R.wait.take k), 0 ≤ e.2 ∧ e.2 < R.files.length := by
 rw [hr.fl.1]
 exact (rel_dir h hr k).bd (h.dirF k)

theorem lensR_perm (fs : List RF) {a b : List RE} (h : a.Perm b) : lensR fs a = lensR fs b := by
 induction h with
 | nil => rfl
 | cons x _ ih => simp only [lensR, ih]
 | swap x y l => simp only [lensR]; omega
 | trans _ _ ih1 ih2 => exact ih1.trans ih2
theorem rel_sum {S : St} {o K : Nat} {D : Dk} {R : RD} (h : At S o K D) (hr : RelD D R) : lensR R.files (liveR R) = sumB D D.live := by
 rw [← lensR_perm _ (rel_live h hr).1]
 have key : ∀ l : List (Nm × Nat), (∀ p ∈ l, p.2 ∈ D.fl) → lensR R.files (mp (ix D.fl) l) = sumB D l := by
  intro l
  induction l with
  | nil => intro _; rfl
  | cons p l ih =>
   intro hl
   obtain ⟨g, h1, h2, _⟩ := hr.fl.2 p.2 (hl p (by simp))
   have ih := ih fun q hq => hl q (by simp [hq])
   unfold mp at ih ⊢
   obtain ⟨q, f⟩ := p
   simp only [List.map_cons, lensR, sumB, ih, lenAt, ix_nat, h1, h2]
 exact key _ h.inl

theorem cut_rel {fl : List Nat} {l : List (Nm × Nat)} {M0 : List RE} (h : DR (ix fl) l M0) (hl : ∀ p ∈ l, p.2 ∈ fl) (kept : List Int) : ∀ (M : List RE) (i : Nat) (fb : Nat → List UInt8) (fs : Nat → Nat) (L : List RF), (∀ e ∈ M, e ∈ M0) → FiR fl fb fs L →
  FiR fl (cutS l kept i (M.map (·.1)) fb fs).1 (cutS l kept i (M.map (·.1)) fb fs).2 (cutR kept i M L)
 | [], i, fb, fs, L, _, hf => hf
 | e :: M, i, fb, fs, L, hm, hf => by
  have h2 : M0.Pairwise fun a b => a.1 ≠ b.1 := h.2.imp fun k e => by rw [e] at k; exact List.lt_irrefl _ k
  have ha := atR_mem h2 (hm e (by simp) : (e.1, e.2) ∈ M0)
  have ha2 := h.at e.1
  have hbd := h.bd hl e (hm e (by simp))
  rw [ha] at ha2
  cases hk : lk e.1 l with
  | none => rw [hk] at ha2; simp only at ha2; omega
  | some f =>
   rw [hk] at ha2
   simp only at ha2
   have hfl := hl _ (lk_mem hk)
   simp only [List.map_cons, cutS, hk, cutR]
   rw [ha2, ix_nat]
   refine cut_rel h hl kept M (i + 1) _ _ _ (fun x hx => hm x (by simp [hx])) ?_
   refine hf.modify hfl fun g g1 g2 => ?_
   simp only [cutF, g1, g2, Int.toNat_natCast]
   exact ⟨trivial, trivial⟩

theorem rel_step {D : Dk} {R : RD} (hr : RelD D R) : stepE R = stepR D ∧ RelD (stepD D) (stepRD R) := by
 have h1 := hr.left
 have h2 := hr.dark
 have h3 := hr.count
 unfold stepE stepR stepD stepRD
 rw [h1, h2]
 refine ⟨rfl, ?_⟩
 split
 ·exact { hr with dark := rfl, left := rfl }
 ·exact { hr with left := rfl, dark := rfl, count := by simp [h3] }
theorem find_at {S : St} {o K : Nat} {D : Dk} {R : RD} (h : At S o K D) (hr : RelD D R) (n : Nm) : (findE D n = 0 ↔ namedB n = true ∧ 0 ≤ atR n (liveR R)) ∧ (findE D n = 9 ↔ namedB n = true ∧ atR n (liveR R) < 0) ∧ (findE D n = 8 ↔ namedB n = false) ∧ (findE D n = 0 ∨ findE D n = 9 ∨ findE D n = 8) := by
 have ha := (rel_live h hr).at n
 unfold findE
 rw [ha]
 cases hn : namedB n with
 | false => simp
 | true =>
  cases hk : lk n D.live with
  | none => simp
  | some f => have := ix_nn D.fl f; simp; omega
theorem rel_chE {S : St} {o K : Nat} {D : Dk} {R : RD} (h : At S o K D) (hr : RelD D R) (n to : Nm) (b : List UInt8) :
  chE R 1 n to b = createE D n ∧ chE R 2 n to b = appendE D n b ∧ chE R 3 n to b = renameE D n to ∧ chE R 4 n to b = findE D n ∧ chE R 5 n to b = findE D n ∧ chE R 6 n to b = 0 := by
 obtain ⟨f0, f9, f8, fo⟩ := find_at h hr n
 have hlen := (rel_live h hr).len
 have hsum := rel_sum h hr
 have hroom := hr.room
 unfold chE createE appendE renameE
 rw [hlen, hsum, hroom]
 cases hn : namedB n with
 | false =>
  rw [hn] at f0 f9 f8
  have e8 := f8.2 rfl
  simp [e8]
 | true =>
  rw [hn] at f0 f9 f8
  by_cases ha : 0 ≤ atR n (liveR R)
  ·have e0 := f0.2 ⟨rfl, ha⟩
   have ha' : ¬ atR n (liveR R) < 0 := by omega
   rw [e0]
   refine ⟨by simp [ha], by simp [ha'], ?_, by simp [ha'], by simp [ha'], by simp⟩
   cases hb : namedB to <;> simp [ha']
  ·have ha' : atR n (liveR R) < 0 := by omega
   have e9 := f9.2 ⟨rfl, ha'⟩
   rw [e9]
   refine ⟨by simp [ha], by simp [ha'], ?_, by simp [ha'], by simp [ha'], by simp⟩
   cases hb : namedB to <;> simp [ha']

theorem rel_read {S : St} {o K : Nat} {D : Dk} {R : RD} (h : At S o K D) (hr : RelD D R) (n : Nm) :
  readRE R n = (if findE D n ≠ 0 then findE D n else if D.dark then 6 else 0) ∧ readRB R n = (if readRE R n = 0 then (match lk n D.live with | some f => D.fb f | none => []) else []) := by
 obtain ⟨f0, f9, f8, fo⟩ := find_at h hr n
 have hd := hr.dark
 have ha := (rel_live h hr).at n
 refine ⟨?_, ?_⟩
 ·unfold readRE
  rw [hd]
  cases hn : namedB n with
  | false => simp [f8.2 hn]
  | true =>
   by_cases ha : 0 ≤ atR n (liveR R)
   ·have ha' : ¬ atR n (liveR R) < 0 := by omega
    simp [f0.2 ⟨hn, ha⟩, ha']
   ·have ha' : atR n (liveR R) < 0 := by omega
    simp [f9.2 ⟨hn, ha'⟩, ha']
 ·unfold readRB
  split
  ·rename_i he
   cases hk : lk n D.live with
   | none =>
    exfalso
    rw [hk] at ha
    simp only at ha
    unfold readRE at he
    rw [ha] at he
    split at he
    ·omega
    ·simp at he
   | some f =>
    rw [hk] at ha
    simp only at ha
    rw [ha, ix_nat]
    obtain ⟨g, h1, h2, _⟩ := hr.fl.2 f (h.inl _ (lk_mem hk))
    simp only [h1, h2]
  ·rfl
theorem rel_names {S : St} {o K : Nat} {D : Dk} {R : RD} (h : At S o K D) (hr : RelD D R) : namesR R = if D.dark then [] else sortN D.live := by
 unfold namesR
 rw [hr.dark, (rel_live h hr).sort]
end Ps
namespace Ps
set_option linter.unusedSimpArgs false
set_option linter.unusedVariables false
open Go
theorem stepRD_files' {R : RD} : (stepRD R).files = R.files ∧ (stepRD R).wait = R.wait ∧ (stepRD R).base = R.base := by unfold stepRD; split <;> exact ⟨rfl, rfl, rfl⟩

theorem stepOf_old {D : Dk} {F : Nat} {S : St} {o K : Nat} (h : At S o K D) : D.wait.map (stepOf (ix (F :: D.fl))) = D.wait.map (stepOf (ix D.fl)) := by
 refine List.map_congr_left fun x hx => ?_
 obtain ⟨a, b, c⟩ := x
 cases c with
 | none => rfl
 | some f =>
  have : ix (F :: D.fl) f = ix D.fl f := by unfold ix; rw [ix_old (h.inw _ hx f rfl)]
  simp only [stepOf, this]

theorem rel_create {S : St} {o K : Nat} {D : Dk} {R : RD} (h : At S o K D) (hr : RelD D R) {n to : Nm} {b : List UInt8} {k : Nat} {lv wv' : PV} (hn : namedB n = true) {F : Nat} (hF : F ∉ D.fl) (hs : stepR D = 0) :
  RelD { stepD (addF D F) with live := put n F D.live, wait := D.wait ++ [([], n, some F)], wv := wv' } (chD (stepRD R) 1 n to b k lv) := by
 obtain ⟨_, h1⟩ := rel_step hr
 obtain ⟨e1, e2, e3⟩ := stepRD_files' (R := R)
 have hst : stepD (addF D F) = addF (stepD D) F := by unfold stepD addF; split <;> rfl
 rw [hst]
 have d1 : (stepD D).fl = D.fl ∧ (stepD D).wait = D.wait ∧ (stepD D).base = D.base ∧ (stepD D).fb = D.fb ∧ (stepD D).fs = D.fs := by unfold stepD; split <;> exact ⟨rfl, rfl, rfl, rfl, rfl⟩
 have hFl := h1.fl
 have hB := h1.base
 rw [d1.1, d1.2.2.2.1, d1.2.2.2.2] at hFl
 rw [d1.1, d1.2.2.1] at hB
 refine { room := h1.room, left := h1.left, dark := h1.dark, count := h1.count, nd := ?_, fl := ?_, base := ?_, wait := ?_, nm := ?_ }
 ·simp only [addF]; rw [d1.1]; exact List.nodup_cons.2 ⟨hF, hr.nd⟩
 ·simp only [addF, chD, chFiles, if_true]; rw [d1.1, d1.2.2.2.1, d1.2.2.2.2]; exact hFl.add hF
 ·simp only [addF, chD]; rw [d1.1, d1.2.2.1]
  refine DR.congr ?_ (φ := ix D.fl) fun p hp => ?_
  ·simpa using hB
  ·unfold ix; rw [ix_old (h.inb p hp)]
 ·simp only [addF, chD, chWait, if_true]
  rw [d1.1, e2, hr.wait, e1, hr.fl.1, List.map_append, stepOf_old h]
  simp only [List.map_cons, List.map_nil, stepOf]
  have : ix (F :: D.fl) F = (D.fl.length : Int) := by unfold ix; rw [ix_new hF]
  rw [this]
 ·simp only
  intro x hx hx2
  rcases List.mem_append.1 hx with hx | hx
  ·exact hr.nm x hx hx2
  ·simp only [List.mem_singleton] at hx
   subst hx
   simp only
   intro e
   subst e
   simp [namedB] at hn

theorem rel_setF {S : St} {o K : Nat} {D : Dk} {R : RD} (h : At S o K D) (hr : RelD D R) {n to : Nm} {b : List UInt8} {lv v' : PV} {f : Nat} (hf : lk n D.live = some f) :
  RelD (setF (stepD D) f v' (D.fb f ++ b) (D.fs f)) (chD (stepRD R) 2 n to b (atR n (liveR R)).toNat lv) ∧ RelD (setF (stepD D) f v' (D.fb f) (D.fb f).length) (chD (stepRD R) 5 n to b (atR n (liveR R)).toNat lv) := by
 obtain ⟨_, h1⟩ := rel_step hr
 obtain ⟨e1, e2, e3⟩ := stepRD_files' (R := R)
 have d1 : (stepD D).fl = D.fl ∧ (stepD D).fb = D.fb ∧ (stepD D).fs = D.fs := by unfold stepD; split <;> exact ⟨rfl, rfl, rfl⟩
 have ha := (rel_live h hr).at n
 rw [hf] at ha
 simp only at ha
 have hfl := h.inl _ (lk_mem hf)
 rw [ha, ix_nat]
 have hFl := h1.fl
 rw [d1.1, d1.2.1, d1.2.2] at hFl
 refine ⟨{ room := h1.room, left := h1.left, dark := h1.dark, count := h1.count, nd := h1.nd, fl := ?_, base := by simpa [chD, setF] using h1.base, wait := by simpa [chD, chWait, setF] using h1.wait, nm := h1.nm }, { room := h1.room, left := h1.left, dark := h1.dark, count := h1.count, nd := h1.nd, fl := ?_, base := by simpa [chD, setF] using h1.base, wait := by simpa [chD, chWait, setF] using h1.wait, nm := h1.nm }⟩
 ·simp only [setF, chD, chFiles]
  rw [d1.1, d1.2.1, d1.2.2]
  exact hFl.modify hfl fun g g1 g2 => by simp [g1, g2]
 ·simp only [setF, chD, chFiles]
  rw [d1.1, d1.2.1, d1.2.2]
  exact hFl.modify hfl fun g g1 g2 => by simp [g1]

theorem rel_wait {S : St} {o K : Nat} {D : Dk} {R : RD} (h : At S o K D) (hr : RelD D R) {n to : Nm} {b : List UInt8} {k : Nat} {lv wv' : PV} :
  (namedB to = true → RelD { stepD D with live := doE (n, to, none) D.live, wait := D.wait ++ [(n, to, none)], wv := wv' } (chD (stepRD R) 3 n to b k lv)) ∧
  RelD { stepD D with live := doE (n, [], none) D.live, wait := D.wait ++ [(n, [], none)], wv := wv' } (chD (stepRD R) 4 n to b k lv) ∧
  (∀ B, RelD { stepD D with bi := B, base := D.live, wait := [], wv := .nils } (chD (stepRD R) 6 n to b k lv)) := by
 obtain ⟨_, h1⟩ := rel_step hr
 obtain ⟨e1, e2, e3⟩ := stepRD_files' (R := R)
 have d1 : (stepD D).fl = D.fl ∧ (stepD D).wait = D.wait ∧ (stepD D).live = D.live := by unfold stepD; split <;> exact ⟨rfl, rfl, rfl⟩
 have hnm : ∀ y : Ent, y.2.2 = none → ∀ x ∈ D.wait ++ [y], x.2.2 ≠ none → x.2.1 ≠ [] := by
  intro y hy x hx hx2
  rcases List.mem_append.1 hx with hx | hx
  ·exact hr.nm x hx hx2
  ·simp only [List.mem_singleton] at hx
   subst hx
   exact absurd hy hx2
 refine ⟨fun hto => { room := h1.room, left := h1.left, dark := h1.dark, count := h1.count, nd := h1.nd, fl := by simpa [chD, chFiles] using h1.fl, base := by simpa [chD] using h1.base, wait := ?_, nm := hnm _ rfl }, { room := h1.room, left := h1.left, dark := h1.dark, count := h1.count, nd := h1.nd, fl := by simpa [chD, chFiles] using h1.fl, base := by simpa [chD] using h1.base, wait := ?_, nm := hnm _ rfl }, fun B => { room := h1.room, left := h1.left, dark := h1.dark, count := h1.count, nd := h1.nd, fl := by simpa [chD, chFiles] using h1.fl, base := ?_, wait := by simp [chD, chWait], nm := fun x hx => by cases hx }⟩
 ·have hne : to ≠ [] := by intro e; subst e; simp [namedB] at hto
  simp only [chD, chWait]
  rw [e2, hr.wait, d1.1, List.map_append]
  simp [stepOf, hne]
 ·simp only [chD, chWait]
  rw [e2, hr.wait, d1.1, List.map_append]
  simp [stepOf]
 ·simp only [chD, if_true]
  rw [d1.1, liveR_step]
  exact rel_live h hr

theorem rel_fuse {D : Dk} {R : RD} (hr : RelD D R) (n : Int) : RelD (fuseD D n) (fuseR R n) := { hr with left := rfl }
theorem rel_crash {S : St} {o K : Nat} {D : Dk} {R : RD} (h : At S o K D) (hr : RelD D R) (dirs : Int) (kept : List Int) {li' : Nat} {fv' : Nat → PV} {lv : PV} : RelD (crashD D li' fv' dirs kept) (crashR R dirs kept lv) := by
 have hk : crashRK R dirs = crashK D dirs := by unfold crashRK crashK; rw [hr.wait, List.length_map]
 have hd := rel_dir h hr (crashK D dirs)
 refine { hr with left := rfl, dark := rfl, fl := ?_, base := ?_, wait := rfl, nm := fun x hx => by cases hx }
 ·simp only [crashD, crashR, crashC, hk]
  rw [hd.sort]
  exact cut_rel hd (h.dirF _) kept _ 0 _ _ _ (fun e he => he) hr.fl
 ·simp only [crashD, crashR, hk]
  exact hd

theorem rel_new {room : Int} (bi li : Nat) (fb : Nat → List UInt8) (fs : Nat → Nat) (fv : Nat → PV) : RelD ⟨room, -1, 0, false, bi, li, [], [], [], .nils, [], fb, fs, fv⟩ (newR room) where
 room := rfl
 left := rfl
 dark := rfl
 count := rfl
 nd := .nil
 fl := ⟨rfl, fun f hf => by cases hf⟩
 base := DR.nil _
 wait := rfl
 nm := fun x hx => by cases hx
end Ps
