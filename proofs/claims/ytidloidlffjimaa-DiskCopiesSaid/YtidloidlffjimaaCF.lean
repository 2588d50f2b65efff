/- Copy: what twin comes to. -/
import Derived.Test.YtidloidlffjimaaCC
import Derived.Test.YtidloidlffjimaaCodeW
namespace Ps
set_option linter.unusedSimpArgs false
set_option linter.unusedVariables false
open Go
theorem lkM_app {f g : Nat} {B : List (Nat × Nat)} : ∀ {A : List (Nat × Nat)}, lkM f A = some g → lkM f (A ++ B) = some g
 | [], h => by simp [lkM] at h
 | q :: l, h => by
  simp only [lkM, List.cons_append] at h ⊢
  split
  ·rename_i e; rw [if_pos e] at h; exact h
  ·rename_i e; rw [if_neg e] at h; exact lkM_app h
theorem lkM_end {f n : Nat} : ∀ {A : List (Nat × Nat)}, (lkM f (A ++ [(f, n)])).isSome = true
 | [] => by simp [lkM]
 | q :: l => by
  simp only [lkM, List.cons_append]
  split
  ·rfl
  ·exact lkM_end

theorem ghosts {b tb : Nat} {D : Dk} {M : List (Nat × Nat)} {gv : Nat → PV} {S : St} (h : Fs b tb D M gv S) (hb : b < S.objs.length) (htb : tb ≤ S.tips.length) : ∀ (L : List Nat), (∀ f ∈ L, f ∈ D.fl) →
  ∃ x y M' gv', Fs b tb D (M ++ M') gv' ⟨S.objs ++ x, S.tips ++ y⟩ ∧ (∀ q ∈ M, gv' q.2 = gv q.2) ∧ (∀ q ∈ M', S.objs.length ≤ q.2 ∧ ∀ k, tid (gv' q.2) = some k → S.tips.length ≤ k) ∧ ∀ f ∈ L, (lkM f (M ++ M')).isSome = true
 | [], _ => ⟨[], [], [], gv, by simpa using h, fun _ _ => rfl, fun q hq => (by cases hq), fun f hf => (by cases hf)⟩
 | f :: L, hL => by
  obtain ⟨x, y, M', gv', h1, h2, h3, h4⟩ := ghosts h hb htb L fun g hg => hL g (by simp [hg])
  cases hl : lkM f (M ++ M') with
  | some g => exact ⟨x, y, M', gv', h1, h2, h3, fun g hg => by
    rcases List.mem_cons.1 hg with rfl | hg
    ·rw [hl]; rfl
    ·exact h4 g hg⟩
  | none =>
   have hne : ∀ q ∈ M ++ M', q.2 ≠ S.objs.length + x.length := fun q hq e => by
    have := (List.getElem?_eq_some_iff.1 (h1.file q hq).2.1).1
    simp at this
    omega
   have hadd := h1.add (S' := ⟨S.objs ++ (x ++ [[.sl (some (S.tips.length + y.length, (D.fb f).length)) (ofBytes (D.fb f)) [], .int .i64 (D.fs f)]]), S.tips ++ (y ++ [((D.fb f).length, 1)])⟩)
    (fun i c _ hc => by simp only at hc ⊢; rw [← List.append_assoc, List.getElem?_append_left (List.getElem?_eq_some_iff.1 hc).1]; exact hc)
    (fun i c hc => by simp only at hc ⊢; rw [← List.append_assoc, List.getElem?_append_left (List.getElem?_eq_some_iff.1 hc).1]; exact hc)
    (f := f) (n := S.objs.length + x.length) (v := .sl (some (S.tips.length + y.length, (D.fb f).length)) (ofBytes (D.fb f)) []) (hL f (by simp)) hl (by simp) (by omega)
    (by simp only; rw [← List.append_assoc]; simp) (.inr ⟨_, _, rfl, by simp only; rw [← List.append_assoc]; simp⟩) (fun k e => by simp only [tid, Option.some.injEq] at e; simp; omega) (by simp; omega)
   refine ⟨_, _, M' ++ [(f, S.objs.length + x.length)], _, by rw [← List.append_assoc]; exact hadd, fun q hq => ?_, fun q hq => ?_, fun g hg => ?_⟩
   ·simp only [if_neg (hne q (by simp [hq]))]; exact h2 q hq
   ·rcases List.mem_append.1 hq with hq | hq
    ·simp only [if_neg (hne q (by simp [hq]))]; exact h3 q hq
    ·simp at hq; subst hq
     simp only [if_true]
     exact ⟨by omega, fun k e => by simp only [tid, Option.some.injEq] at e; omega⟩
   ·rw [← List.append_assoc]
    rcases List.mem_cons.1 hg with rfl | hg
    ·exact lkM_end
    ·obtain ⟨z, hz⟩ := Option.isSome_iff_exists.1 (h4 g hg)
     rw [lkM_app hz]; rfl

def backM (M : List (Nat × Nat)) (g : Nat) : Nat := match M.find? (fun q => q.2 == g) with | some q => q.1 | none => 0
theorem backM_of : ∀ {M : List (Nat × Nat)}, (M.map (·.2)).Nodup → ∀ q ∈ M, backM M q.2 = q.1 := by
 intro M hn q hq
 unfold backM
 cases h : M.find? (fun r => r.2 == q.2) with
 | none =>
  have := List.find?_eq_none.1 h q hq
  simp at this
 | some r =>
  have h1 := List.find?_some h
  simp only [beq_iff_eq] at h1
  have h2 := List.mem_of_find?_eq_some h
  simp only
  -- both stand at one place
  have : r = q := by
   have hp := List.pairwise_map.1 hn
   rcases List.mem_iff_getElem.1 h2 with ⟨i, hi, ei⟩
   rcases List.mem_iff_getElem.1 hq with ⟨j, hj, ej⟩
   rw [← ei, ← ej] at h1
   have hi' : i < (M.map (·.2)).length := by simpa using hi
   have hj' : j < (M.map (·.2)).length := by simpa using hj
   have e : (M.map (·.2))[i] = (M.map (·.2))[j] := by simpa using h1
   have := (List.getElem_inj hn).1 e
   subst this
   rw [← ei, ← ej]
  rw [this]

theorem copy_at {S0 S1 : St} {o K c t1 t2 : Nat} {D : Dk} (hA : At S0 o K D) {M : List (Nat × Nat)} {gv : Nat → PV} (hfs : Fs (S0.objs.length + 2) S0.tips.length D M gv S1) {b' l' : List (Nm × Nat)} {wv' : PV}
  (hold : ∀ (i : Nat) (x : List PV), S0.objs[i]? = some x → S1.objs[i]? = some x) (htl : S0.tips.length ≤ S1.tips.length) (hlen : S0.objs.length + 2 < S1.objs.length)
  (hc : S1.objs[c]? = some [.int .i64 D.room, .map t1, .map t2, wv', .int .i64 D.left, .int .i64 D.done, .bool D.dark]) (h1 : S1.objs[t1]? = some (mcells b')) (h2 : S1.objs[t2]? = some (mcells l'))
  (hw : SlT S1 3 wv' ((D.wait.map (mapE fun f => (lkM f M).getD 0)).map entV)) (hb : b'.Perm (mapP (fun f => (lkM f M).getD 0) D.base)) (hl : l'.Perm (mapP (fun f => (lkM f M).getD 0) D.live))
  (ib : ∀ p ∈ D.base, (lkM p.2 M).isSome = true) (il : ∀ p ∈ D.live, (lkM p.2 M).isSome = true) (iw : ∀ x ∈ D.wait, ∀ f, x.2.2 = some f → (lkM f M).isSome = true)
  (n1 : S0.objs.length ≤ c ∧ S0.objs.length ≤ t1 ∧ S0.objs.length ≤ t2) (n2 : c ≠ t1 ∧ c ≠ t2 ∧ t1 ≠ t2) (n3 : ∀ q ∈ M, q.2 ≠ c ∧ q.2 ≠ t1 ∧ q.2 ≠ t2)
  (nw : ∀ k, tid wv' = some k → S0.tips.length ≤ k ∧ ∀ q ∈ M, tid (gv q.2) ≠ some k) :
  ∃ φ D' x y, At ⟨S1.objs ++ x, S1.tips ++ y⟩ c K D' ∧ CopyOf φ D D' ∧ (∀ i, OwnsO D' i → S0.objs.length ≤ i) ∧ ∀ k, Owns D' k → S0.tips.length ≤ k := by
 obtain ⟨x, y, M', gv', g1, g2, g3, g4⟩ := ghosts hfs hlen htl D.fl fun _ h => h
 have cl : c < S1.objs.length := (List.getElem?_eq_some_iff.1 hc).1
 have t1l : t1 < S1.objs.length := (List.getElem?_eq_some_iff.1 h1).1
 have t2l : t2 < S1.objs.length := (List.getElem?_eq_some_iff.1 h2).1
 let φ : Nat → Nat := fun f => (lkM f (M ++ M')).getD 0
 have hφ : ∀ f ∈ D.fl, (f, φ f) ∈ M ++ M' := fun f hf => by
  obtain ⟨g, hg⟩ := Option.isSome_iff_exists.1 (g4 f hf)
  simp only [φ, hg, Option.getD_some]
  exact lkM_mem hg
 have hback : ∀ f ∈ D.fl, backM (M ++ M') (φ f) = f := fun f hf => backM_of g1.ng _ (hφ f hf)
 have hsame : ∀ f, (lkM f M).isSome = true → (lkM f M).getD 0 = φ f := fun f hf => by
  obtain ⟨g, hg⟩ := Option.isSome_iff_exists.1 hf
  simp only [φ, lkM_app hg, hg]
 have eb : mapP (fun f => (lkM f M).getD 0) D.base = mapP φ D.base := List.map_congr_left fun p hp => by show (p.1, (lkM p.2 M).getD 0) = (p.1, φ p.2); rw [hsame _ (ib p hp)]
 have el : mapP (fun f => (lkM f M).getD 0) D.live = mapP φ D.live := List.map_congr_left fun p hp => by show (p.1, (lkM p.2 M).getD 0) = (p.1, φ p.2); rw [hsame _ (il p hp)]
 have ew : D.wait.map (mapE fun f => (lkM f M).getD 0) = D.wait.map (mapE φ) := List.map_congr_left fun z hz => by
  obtain ⟨a, b, f⟩ := z
  cases f with
  | none => rfl
  | some f => simp only [mapE, Option.map_some, hsame f (iw _ hz f rfl)]
 rw [eb] at hb
 rw [el] at hl
 rw [ew] at hw
 let D' : Dk := { room := D.room, left := D.left, done := D.done, dark := D.dark, bi := t1, li := t2, base := b', live := l', wait := D.wait.map (mapE φ), wv := wv', fl := D.fl.map φ, fb := fun g => D.fb (backM (M ++ M') g), fs := fun g => D.fs (backM (M ++ M') g), fv := gv' }
 have hcopy : CopyOf φ D D' := {
  inj := fun f hf g hg e => by rw [← hback f hf, e, hback g hg]
  room := rfl, left := rfl, dark := rfl, done := rfl, fl := rfl
  fb := fun f hf => by simp only [D', hback f hf]
  fs := fun f hf => by simp only [D', hback f hf]
  base := hb, live := hl, wait := rfl }
 have hmem : ∀ g ∈ D'.fl, ∃ f ∈ D.fl, g = φ f ∧ (f, g) ∈ M ++ M' := fun g hg => by
  obtain ⟨f, hf, rfl⟩ := List.mem_map.1 hg
  exact ⟨f, hf, rfl, hφ f hf⟩
 have hap : ∀ {i : Nat} {z : List PV}, S1.objs[i]? = some z → (S1.objs ++ x)[i]? = some z := fun hz => by rw [List.getElem?_append_left (List.getElem?_eq_some_iff.1 hz).1]; exact hz
 have hat : ∀ {k : Nat} {z : Nat × Nat}, S1.tips[k]? = some z → (S1.tips ++ y)[k]? = some z := fun hz => by rw [List.getElem?_append_left (List.getElem?_eq_some_iff.1 hz).1]; exact hz
 have hnew : ∀ q ∈ M ++ M', q.2 ≠ c ∧ q.2 ≠ t1 ∧ q.2 ≠ t2 := fun q hq => by
  rcases List.mem_append.1 hq with hq | hq
  ·exact n3 q hq
  ·have := (g3 q hq).1; omega
 have htw : ∀ q ∈ M ++ M', ∀ k, tid wv' = some k → tid (gv' q.2) ≠ some k := fun q hq k hk e => by
  have hwl := hw.tip hk
  rcases List.mem_append.1 hq with hq | hq
  ·rw [g2 q hq] at e
   exact (nw k hk).2 q hq e
  ·have := (g3 q hq).2 k e
   omega
 have hA' : At ⟨S1.objs ++ x, S1.tips ++ y⟩ c K D' := {
  obj := hap hc
  base := hap h1
  live := hap h2
  wv := by
   rcases hw with w | ⟨k, e, w1, w2⟩
   ·exact .inl w
   ·exact .inr ⟨k, e, w1, hat w2⟩
  file := fun g hg => by
   obtain ⟨f, hf, rfl, hq⟩ := hmem g hg
   obtain ⟨f1, f2, f3, f4⟩ := g1.file _ hq
   obtain ⟨a1, a2, a3, a4⟩ := hA.file f hf
   simp only [D', hback f hf] at f1 f2 f3 f4 ⊢
   exact ⟨f2, f3, a3, a4⟩
  inb := fun p hp => by
   obtain ⟨q, hq, rfl⟩ := List.mem_map.1 (hb.mem_iff.1 hp)
   exact List.mem_map.2 ⟨q.2, hA.inb q hq, rfl⟩
  inw := fun z hz f hf => by
   obtain ⟨z0, hz0, rfl⟩ := List.mem_map.1 hz
   obtain ⟨a, b, f0⟩ := z0
   cases f0 with
   | none => simp [mapE] at hf
   | some f0 =>
    simp only [mapE, Option.map_some, Option.some.injEq] at hf
    subst hf
    exact List.mem_map.2 ⟨f0, hA.inw _ hz0 f0 rfl, rfl⟩
  nd := ⟨n2.1, n2.2.1, n2.2.2, fun g hg => by
   obtain ⟨f, hf, rfl, hq⟩ := hmem g hg
   exact hnew _ hq⟩
  tw := fun g hg k hk => by
   obtain ⟨f, hf, rfl, hq⟩ := hmem g hg
   exact htw _ hq k hk
  tf := fun g hg g' hg' hne k hk => by
   obtain ⟨f, hf, rfl, hq⟩ := hmem g hg
   obtain ⟨f', hf', rfl, hq'⟩ := hmem g' hg'
   exact g1.dis _ hq _ hq' hne k hk
  hist := hA.hist.copy φ hb hl
  nb := fun p hp => by
   obtain ⟨q, hq, rfl⟩ := List.mem_map.1 (hb.mem_iff.1 hp)
   exact hA.nb q hq
  nw := fun z hz => by
   obtain ⟨z0, hz0, rfl⟩ := List.mem_map.1 hz
   exact hA.nw z0 hz0
  rm := hA.rm
  cnt := by
   have e1 : b'.length = D.base.length := by rw [hb.length_eq]; simp [mapP]
   have := hA.cnt
   simp only [D', List.length_map]
   omega
  dn := hA.dn
  lf := hA.lf }
 refine ⟨φ, D', x, y, hA', hcopy, fun i hi => ?_, fun k hk => ?_⟩
 ·rcases hi with rfl | rfl | hi
  ·exact n1.2.1
  ·exact n1.2.2
  ·obtain ⟨f, hf, rfl, hq⟩ := hmem i hi
   have := (g1.file _ hq).1
   simp only at this
   omega
 ·rcases hk with hk | ⟨g, hg, hk⟩
  ·exact (nw k hk).1
  ·obtain ⟨f, hf, rfl, hq⟩ := hmem g hg
   exact (g1.file _ hq).2.2.2 k hk
end Ps
namespace Ps
set_option linter.unusedSimpArgs false
set_option linter.unusedVariables false
open Go
theorem put_fresh {k : Nm} {f : Nat} : ∀ {l : List (Nm × Nat)}, (∀ p ∈ l, p.1 ≠ k) → put k f l = l ++ [(k, f)]
 | [], _ => rfl
 | (q, u) :: l, h => by
  have e : (k == q) = false := by rw [beq_eq_false_iff_ne]; exact Ne.symm (h (q, u) (by simp))
  have ih := put_fresh (k := k) (f := f) (l := l) fun p hp => h p (by simp [hp])
  simp only [put, e, Bool.false_eq_true, if_false, List.cons_append, ih]

def toM (M : List (Nat × Nat)) (l : List (Nm × Nat)) : List (Nm × Nat) := mapP (fun f => (lkM f M).getD 0) l
theorem toM_app {M L : List (Nat × Nat)} {l : List (Nm × Nat)} (h : ∀ p ∈ l, (lkM p.2 M).isSome = true) : toM (M ++ L) l = toM M l := by
 refine List.map_congr_left fun p hp => ?_
 obtain ⟨g, hg⟩ := Option.isSome_iff_exists.1 (h p hp)
 show (p.1, (lkM p.2 (M ++ L)).getD 0) = (p.1, (lkM p.2 M).getD 0)
 rw [hg, lkM_app hg]
theorem isSome_app {M L : List (Nat × Nat)} {f : Nat} (h : (lkM f M).isSome = true) : (lkM f (M ++ L)).isSome = true := by
 obtain ⟨g, hg⟩ := Option.isSome_iff_exists.1 h
 rw [lkM_app hg]; rfl

def entP (p : Nm × Nat) : PV × PV := (.str p.1, .ptr p.2 0)

theorem Cp.unmk {S0 : St} {li : Nat} {cs : List PV} {D : Dk} {M : List (Nat × Nat)} {gv : Nat → PV} {S : St} (h : Cp S0 (some li) D M gv S) (hli : S0.objs[li]? = some cs) (hlt : S0.objs.length < S.objs.length) : Cp S0 none D M gv (Ps.unmk li cs S) := by
 have hl0 := (List.getElem?_eq_some_iff.1 hli).1
 have hne : ∀ i, i ≠ li → (Ps.unmk li cs S).objs[i]? = S.objs[i]? := fun i hi => by simp only [Ps.unmk]; rw [List.getElem?_set_ne (Ne.symm hi)]
 exact {
  old := fun i c _ hc => by
   by_cases hi : i = li
   ·subst hi
    rw [hli] at hc; cases hc
    simp only [Ps.unmk]; rw [List.getElem?_set_self (by omega)]
   ·rw [hne i hi]; exact h.old i c (fun e => hi (by cases e; rfl)) hc
  told := h.told
  made := by rw [hne _ (by omega)]; exact h.made
  bm := by rw [hne _ (by omega)]; exact h.bm
  bo := by rw [hne _ (by omega)]; exact h.bo
  fs := h.fs.more (fun i c hi hc => by
   obtain ⟨q, hq, rfl⟩ := List.mem_map.1 hi
   have := (h.fs.file q hq).1
   rw [hne _ (by omega)]; exact hc) (fun _ _ hc => hc) }

theorem twin_rounds {S0 : St} {o K : Nat} {D : Dk} (hA : At S0 o K D) {li t : Nat} {l : List (Nm × Nat)} (hli : li < S0.objs.length ∧ li ∉ D.fl) (hnd : Nd l) (hfl : ∀ p ∈ l, p.2 ∈ D.fl) {Ma : List (Nat × Nat)} {ga : Nat → PV} {Sa : St} (hta : Sa.objs.length ≤ t) (ht0 : S0.objs.length + 2 < t)
  {Post : Fr → St → Prop}
  (hP : ∀ fr S M gv l', fr 4 = .map t → Cp S0 (some li) D M gv S → CpLe S0 (some li) Ma ga Sa M gv S → S.objs[t]? = some (mcells l') → l'.Perm (toM M l) → (∀ p ∈ l, (lkM p.2 M).isSome = true) → (∀ q ∈ M, q.2 ≠ t) → Post fr S) :
  ∀ (N : Nat) (rem : List (PV × PV)) (l2 dn : List (Nm × Nat)) (fr : Fr) (S : St) (M : List (Nat × Nat)) (gv : Nat → PV) (out : List (Nm × Nat)), rem.length = N → rem.Perm (l2.map entP) → (dn ++ l2).Perm l → Cp S0 (some li) D M gv S → CpLe S0 (some li) Ma ga Sa M gv S →
   S.objs[t]? = some (mcells out) → out = toM M dn → (∀ p ∈ dn, (lkM p.2 M).isSome = true) → (∀ q ∈ M, q.2 ≠ t) → fr 1 = .ptr (S0.objs.length + 2) 0 → fr 4 = .map t →
   RgW tie 9 12 twinW_post twinW_l twinW_b Post N rem fr S := by
 intro N
 induction N with
 | zero =>
  intro rem l2 dn fr S M gv out hN hrem hperm hC hle hout ho hs hnt f1 f4
  have hr0 : rem = [] := List.eq_nil_of_length_eq_zero hN
  subst hr0
  have h2 : l2 = [] := by
   have := hrem.length_eq
   simp at this
   exact List.eq_nil_of_length_eq_zero this.symm
  subst h2
  rw [List.append_nil] at hperm
  refine ⟨rfl, hP fr S M gv out f4 hC hle hout ?_ (fun p hp => hs p (hperm.mem_iff.2 hp)) hnt⟩
  rw [ho]; exact hperm.map _
 | succ N ih =>
  intro rem l2 dn fr S M gv out hN hrem hperm hC hle hout ho hs hnt f1 f4
  refine RgW_succ fun k v rem' r hkv => ?_
  have hmem : (k, v) ∈ l2.map entP := hrem.mem_iff.1 (hkv.mem_iff.2 (by simp))
  obtain ⟨p, hp, hpe⟩ := List.mem_map.1 hmem
  obtain ⟨n, f⟩ := p
  simp only [entP, Prod.mk.injEq] at hpe
  obtain ⟨rfl, rfl⟩ := hpe
  have hp2 : l2.Perm ((n, f) :: l2.erase (n, f)) := List.perm_cons_erase hp
  have hrem' : rem'.Perm ((l2.erase (n, f)).map entP) := by
   have h1 : ((.str n, .ptr f 0) :: rem').Perm (((n, f) :: l2.erase (n, f)).map entP) := hkv.symm.trans (hrem.trans (hp2.map entP))
   exact (List.perm_cons _).1 h1
  have hperm' : (dn ++ [(n, f)] ++ l2.erase (n, f)).Perm l := by
   rw [List.append_assoc]
   exact (List.Perm.append_left dn hp2).symm.trans hperm
  have hpl : (n, f) ∈ l := hperm.mem_iff.1 (by simp [hp])
  have hfresh : ∀ q ∈ dn, q.1 ≠ n := by
   have hn2 : Nd (dn ++ l2) := nd_perm hperm.symm hnd
   obtain ⟨_, _, h3⟩ := List.pairwise_append.1 hn2
   exact fun q hq => h3 q hq (n, f) hp
  obtain ⟨g, M', gv', S1, hown, hC1, hle1, hlk⟩ := own_val hA hC (fun i e => by cases e; exact hli) (hfl _ hpl)
  have hle2 : CpLe S0 (some li) Ma ga Sa M' gv' S1 := hle.trans hle1.ex
  have hout1 : S1.objs[t]? = some (mcells out) := hle1.obj t _ (by omega) (by simp) hout
  have hb := hC.bo
  obtain ⟨L, hL⟩ := hle1.pre
  have hput : put n g out = out ++ [(n, g)] := put_fresh fun q hq => by
   rw [ho] at hq
   obtain ⟨q0, hq0, rfl⟩ := List.mem_map.1 hq
   exact hfresh q0 hq0
  have hmp := mput_mc n g out
  rw [hput] at hmp
  have hnt' : ∀ q ∈ M', q.2 ≠ t := fun q hq => by
   by_cases hqM : q ∈ M
   ·exact hnt q hqM
   ·have := (hle1.new q hq hqM).1
    have := (List.getElem?_eq_some_iff.1 hout).1
    omega
  obtain ⟨S2, hS2⟩ : ∃ S2 : St, S2 = ⟨S1.objs.set t (mcells (out ++ [(n, g)])), S1.tips⟩ := ⟨_, rfl⟩
  have hC2 : Cp S0 (some li) D M' gv' S2 := hC1.more (fun i c _ hc hi => by
   rw [hS2]; simp only
   rw [List.getElem?_set_ne (fun e => by
    subst e
    rcases hi with hi | hi
    ·omega
    ·obtain ⟨q, hq, e⟩ := List.mem_map.1 hi
     exact hnt' q hq e)]
   exact hc) (fun _ _ hc => by rw [hS2]; exact hc) (fun i e => by cases e; exact hli.1)
  have hle3 : CpLe S0 (some li) Ma ga Sa M' gv' S2 := by rw [hS2]; exact hle2.set hta
  have hout2 : S2.objs[t]? = some (mcells (out ++ [(n, g)])) := by rw [hS2]; exact get_set hout1
  have ho2 : out ++ [(n, g)] = toM M' (dn ++ [(n, f)]) := by
   simp only [toM, mapP, List.map_append, List.map_cons, List.map_nil]
   have e1 : (List.map (fun p : Nm × Nat => (p.1, (lkM p.2 M').getD 0)) dn) = toM M' dn := rfl
   rw [e1, hL, toM_app hs, ← ho, ← hL, hlk]; rfl
  have hs2 : ∀ p ∈ dn ++ [(n, f)], (lkM p.2 M').isSome = true := fun p hp => by
   rcases List.mem_append.1 hp with hp | hp
   ·rw [hL]; exact isSome_app (hs p hp)
   ·simp at hp; subst hp; rw [hlk]; rfl
  have hnext : ∀ fr', fr' 1 = .ptr (S0.objs.length + 2) 0 → fr' 4 = .map t → RgW tie 9 12 twinW_post twinW_l twinW_b Post N rem' fr' S2 := fun fr' g1 g4 =>
   ih rem' (l2.erase (n, f)) (dn ++ [(n, f)]) fr' S2 M' gv' _ (by have := hkv.length_eq; simp at this; omega) hrem' hperm' hC2 hle3 hout2 ho2 hs2 hnt' g1 g4
  clear ih hP
  rw [tie_T]
  simp -implicitDefEqProofs [twinW_post_go, f1, f4]
  refine W_det tieOk rfl ?_
  rw [tie_T]
  rw [hS2] at hnext
  simp -implicitDefEqProofs [twinW_b_go, f1, f4, loadP_ptr hb, part1, hown, pstep, hout1, hmp, isKeyP]
  first
  | (refine hnext _ ?_ ?_ <;> simp [twinW_l, f1, f4])
  | (refine ⟨?_, hnext _ ?_ ?_⟩ <;> simp [twinW_l, f1, f4])
end Ps
namespace Ps
set_option linter.unusedSimpArgs false
set_option linter.unusedVariables false
open Go Go.Proofs
theorem fin_map {S S1 : St} {t : Nat} : finish false S S1 (.map t) = (.map t, S1) := by
 have : sol S1.objs S.objs.length solFuel (.map t) = none := rfl
 simp [finish, this]

def TwinR (S0 : St) (D : Dk) (M : List (Nat × Nat)) (gv : Nat → PV) (S : St) (l : List (Nm × Nat)) (r : Rs) : Prop :=
 ∃ t l' M' gv' S', r = .ret (.map t) S' ∧ Cp S0 none D M' gv' S' ∧ CpLe S0 none M gv S M' gv' S' ∧ S.objs.length ≤ t ∧ S'.objs[t]? = some (mcells l') ∧ l'.Perm (toM M' l) ∧ (∀ p ∈ l, (lkM p.2 M').isSome = true) ∧ ∀ q ∈ M', q.2 ≠ t

theorem twin_spec {S0 : St} {o K : Nat} {D : Dk} (hA : At S0 o K D) {M : List (Nat × Nat)} {gv : Nat → PV} {S : St} (h : Cp S0 none D M gv S) {l : List (Nm × Nat)} {li : Nat} (hl0 : S0.objs[li]? = some (mcells l)) (hld : li ∉ D.fl) (hnd : Nd l) (hfl : ∀ p ∈ l, p.2 ∈ D.fl) :
  WSpec tie 464 [.map li, .ptr (S0.objs.length + 2) 0] S (TwinR S0 D M gv S l) := by
 have hl1 := (List.getElem?_eq_some_iff.1 hl0).1
 have hlS : S.objs[li]? = some (mcells l) := h.old li _ (by simp) hl0
 have hlen : S0.objs.length + 2 < S.objs.length := (List.getElem?_eq_some_iff.1 h.bo).1
 have hliS : li < S.objs.length := by omega
 refine W_fn tieOk funcTwin chkTwin rfl ?_
 show W tie twinW.body _ _ _
 unfold twinW
 simp only
 refine W_seq_det tieOk rfl ?_
 simp -implicitDefEqProofs [disk_Disk_Copy_2_r0]
 refine W_seq_det tieOk rfl ?_
 simp -implicitDefEqProofs [disk_Disk_Copy_2_r1, pstep]
 obtain ⟨S1, hS1⟩ : ∃ S1 : St, S1 = ⟨S.objs ++ [[]], S.tips⟩ := ⟨_, rfl⟩
 have key : ∀ fr : Fr, fr 0 = .map li → fr 1 = .ptr (S0.objs.length + 2) 0 → fr 4 = .map S.objs.length → W tie (.seq (.rng [Ps.M 8 0] (V 8) 12 twinW_post twinW_l twinW_b) (.seq (.clr [(20, 21)] (.region disk_Disk_Copy_2_r6)) .ret)) fr S1 (fun e fr' S1 => match e with
   | .exit _ => False
   | .pan v => TwinR S0 D M gv S l (.pan (finish false S S1 v).1 (finish false S S1 v).2)
   | _ => TwinR S0 D M gv S l (.ret (finish false S S1 (fr' 3)).1 (finish false S S1 (fr' 3)).2)) := by
  intro fr f0 f1 f4
  have hl1' : S1.objs[li]? = some (mcells l) := by rw [hS1]; simp only; rw [List.getElem?_append_left hliS]; exact hlS
  refine W_seq (W_rng tieOk (fr1 := upd fr 8 (fr 0)) (S1 := S1) (id := li) (cs := mcells l) (by simp [pops, wantedP, pstep, peval, withSt]) (by simp [f0]) hl1' (mcells_even l) ?_)
  rw [entsOf_mc]
  have hC1 : Cp S0 (some li) D M gv (Ps.unmk li (mcells l ++ [.und]) S1) := by
   have hne : ∀ (i : Nat) (c : List PV), i ≠ li → S.objs[i]? = some c → (Ps.unmk li (mcells l ++ [.und]) S1).objs[i]? = some c := fun i c hi hc => by
    simp only [Ps.unmk]
    rw [List.getElem?_set_ne (Ne.symm hi), hS1]
    simp only
    rw [List.getElem?_append_left (List.getElem?_eq_some_iff.1 hc).1]; exact hc
   have htp : (Ps.unmk li (mcells l ++ [.und]) S1).tips = S.tips := by rw [hS1]; rfl
   exact {
    old := fun i c hi hc => hne i c (fun e => hi (by rw [e])) (h.old i c (by simp) hc)
    told := fun k c hc => by rw [htp]; exact h.told k c hc
    made := hne _ _ (by omega) h.made
    bm := hne _ _ (by omega) h.bm
    bo := hne _ _ (by omega) h.bo
    fs := h.fs.more (fun i c hi hc => hne i c (fun e => by
     obtain ⟨q, hq, e2⟩ := List.mem_map.1 hi
     have := (h.fs.file q hq).1
     omega) hc) (fun k c hc => by rw [htp]; exact hc) }
  have hle1 : CpLe S0 (some li) M gv S M gv (Ps.unmk li (mcells l ++ [.und]) S1) := by
   refine ⟨⟨[], by simp⟩, fun _ _ => rfl, fun i c _ hx hc => ?_, fun k c hc => by rw [hS1]; exact hc, fun q a b => absurd a b, by rw [hS1]; simp [Ps.unmk], by rw [hS1]; simp [Ps.unmk]⟩
   simp only [Ps.unmk]
   rw [List.getElem?_set_ne (fun e => hx (by rw [e])), hS1]
   simp only
   rw [List.getElem?_append_left (List.getElem?_eq_some_iff.1 hc).1]; exact hc
  refine twin_rounds hA (li := li) (t := S.objs.length) (l := l) ⟨hl1, hld⟩ hnd hfl (Ma := M) (ga := gv) (Sa := S) (Nat.le_refl _) hlen ?_ _ _ l [] _ _ M gv [] rfl (.refl _) (by simp) hC1 hle1 ?_ rfl (fun p hp => by cases hp) (fun q hq e => ?_) (by simp [twinW_l, f1]) (by simp [twinW_l, f4])
  ·intro fr2 S2 M2 gv2 l' g4 hC2 hle2 hout hperm his hnt
   have hlt2 : S0.objs.length < S2.objs.length := by have := hle2.ol; omega
   have hC3 := hC2.unmk hl0 hlt2
   have hle3 : CpLe S0 none M gv S M2 gv2 (Ps.unmk li (mcells l) S2) := by
    refine ⟨hle2.pre, hle2.gv, fun i c hi _ hc => ?_, hle2.tip, hle2.new, by have := hle2.ol; simpa [Ps.unmk] using this, hle2.tl⟩
    by_cases e : i = li
    ·subst e
     rw [hlS] at hc; cases hc
     simp only [Ps.unmk]; rw [List.getElem?_set_self (by omega)]
    ·simp only [Ps.unmk]
     rw [List.getElem?_set_ne (Ne.symm e)]
     exact hle2.obj i c hi (fun q => e (by cases q; rfl)) hc
   have hout3 : (Ps.unmk li (mcells l) S2).objs[S.objs.length]? = some (mcells l') := by
    simp only [Ps.unmk]; rw [List.getElem?_set_ne (by omega)]; exact hout
   generalize Ps.unmk li (mcells l) S2 = S3 at hC3 hle3 hout3
   refine W_ret_det tieOk rfl ?_
   simp -implicitDefEqProofs [disk_Disk_Copy_2_r6, g4]
   refine ⟨S.objs.length, l', M2, gv2, S3, ?_, hC3, hle3, Nat.le_refl _, hout3, hperm, his, hnt⟩
   simp [packed, fin_map]
  ·simp only [Ps.unmk]
   rw [List.getElem?_set_ne (by omega), hS1]
   simp [mcells]
  ·have := (List.getElem?_eq_some_iff.1 (h.fs.file q hq).2.1).1
   omega
 rw [← hS1]
 refine key _ ?_ ?_ ?_
 ·simp [argsFr]
 ·simp [argsFr]
 ·simp
end Ps
