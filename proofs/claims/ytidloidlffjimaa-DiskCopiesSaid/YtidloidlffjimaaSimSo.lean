/- New objects that will not turn any more are told by what they hold. -/
import Derived.Test.YtidloidlffjimaaSimOb
namespace Ps
open Go
theorem mapO_get {f : PV → Option PV} : ∀ {l m : List PV}, mapO f l = some m → l.length = m.length ∧ ∀ (j : Nat) (c d : PV), l[j]? = some c → m[j]? = some d → f c = some d
 | [], m, h => by cases h; exact ⟨rfl, fun j c d h => by simp at h⟩
 | a :: l, m, h => by
  simp only [mapO] at h
  split at h
  ·rename_i b hb
   split at h
   ·rename_i m' hm
    cases h
    obtain ⟨h1, h2⟩ := mapO_get hm
    refine ⟨by simp [h1], fun j c d hc hd => ?_⟩
    cases j with
    | zero => simp at hc hd; subst hc; subst hd; exact hb
    | succ j => exact h2 j c d (by simpa using hc) (by simpa using hd)
   ·cases h
  ·cases h

theorem freeL_of_mem : ∀ {l : List PV}, (∀ v ∈ l, v.free = true) → PV.freeL l = true
 | [], _ => rfl
 | a :: l, h => by simp only [PV.freeL, Bool.and_eq_true]; exact ⟨h a (by simp), freeL_of_mem fun v hv => h v (by simp [hv])⟩

theorem mapO_free {f : PV → Option PV} {l m : List PV} (h : mapO f l = some m) (hf : ∀ c d, f c = some d → d.free = true) : PV.freeL m = true := by
 obtain ⟨h1, h2⟩ := mapO_get h
 apply freeL_of_mem
 intro v hv
 obtain ⟨j, hj⟩ := List.getElem?_of_mem hv
 have hlt : j < l.length := by rw [h1]; exact (List.getElem?_eq_some_iff.1 hj).1
 exact hf _ _ (h2 j l[j] v (List.getElem?_eq_getElem hlt) hj)

theorem chunk_free {sz : Nat} : ∀ (n : Nat) (cs : List PV), PV.freeL cs = true → PV.freeL (chunk sz n cs) = true
 | 0, _, _ => rfl
 | n + 1, cs, h => by
  have hm := freeL_mem h
  have h1 : PV.freeL (cs.take sz) = true := freeL_of_mem fun v hv => hm v (List.mem_of_mem_take hv)
  have h2 : PV.freeL (cs.drop sz) = true := freeL_of_mem fun v hv => hm v (List.mem_of_mem_drop hv)
  simp only [chunk, PV.freeL, Bool.and_eq_true]
  refine ⟨?_, chunk_free n _ h2⟩
  unfold mkE
  split
  ·rename_i c hc
   rw [hc] at h1
   simp only [PV.freeL, Bool.and_eq_true] at h1
   split
   ·exact h1.1
   ·simp [PV.free, PV.freeL, h1.1]
  ·exact h1

theorem sol_free {objs : List (List PV)} {n0 : Nat} : ∀ (k : Nat) {v d : PV}, sol objs n0 k v = some d → d.free = true
 | 0, v, d, h => by simp [sol] at h
 | k + 1, v, d, h => by
  have ih : ∀ c d, sol objs n0 k c = some d → d.free = true := fun c d h => sol_free k h
  unfold sol at h
  split at h
  ·rename_i hf; cases h; exact hf
  ·cases v <;> simp only at h <;> try (cases h; done)
   case ptr id off =>
    split at h
    ·split at h
     ·split at h
      ·split at h
       ·rename_i hm; cases h; simp only [PV.free]; exact mapO_free hm ih
       ·cases h
      ·cases h
     ·cases h
    ·cases h
   case ref cs =>
    split at h
    ·rename_i hm; cases h; simp only [PV.free]; exact mapO_free hm ih
    ·cases h
   case iface t v =>
    split at h
    ·rename_i hm; cases h; simp only [PV.free]; exact ih _ _ hm
    ·cases h
   case agg cs =>
    split at h
    ·rename_i hm; cases h; simp only [PV.free]; exact mapO_free hm ih
    ·cases h
   case tup cs =>
    split at h
    ·rename_i hm; cases h; simp only [PV.free]; exact mapO_free hm ih
    ·cases h
   case fn f cs =>
    split at h
    ·rename_i hm; cases h; simp only [PV.free]; exact mapO_free hm ih
    ·cases h
   case sl tip es sp =>
    split at h
    ·rename_i h1 h2; cases h; simp only [PV.free, Bool.and_eq_true]; exact ⟨mapO_free h1 ih, mapO_free h2 ih⟩
    ·cases h
   case emp => cases h; rfl
   case osl id off len sz =>
    split at h
    ·split at h
     ·split at h
      ·split at h
       ·rename_i hm; cases h; simp only [PV.free, Bool.and_eq_true]; exact ⟨chunk_free _ _ (mapO_free hm ih), rfl⟩
       ·cases h
      ·cases h
     ·cases h
    ·cases h

def SolL (objs : List (List PV)) (n0 K : Nat) (cs ds : List PV) : Prop :=
 cs.length = ds.length ∧ ∀ (j : Nat) (c d : PV), cs[j]? = some c → ds[j]? = some d → ∃ k, k < K ∧ sol objs n0 k c = some d

theorem solL_of {objs : List (List PV)} {n0 k : Nat} {cs ds : List PV} (h : mapO (sol objs n0 k) cs = some ds) : SolL objs n0 (k + 1) cs ds :=
 ⟨(mapO_get h).1, fun j c d h1 h2 => ⟨k, by omega, (mapO_get h).2 j c d h1 h2⟩⟩

theorem SolL.append {objs : List (List PV)} {n0 K : Nat} {a b c d : List PV} (h : SolL objs n0 K a b) (k : SolL objs n0 K c d) : SolL objs n0 K (a ++ c) (b ++ d) := by
 refine ⟨by simp [h.1, k.1], fun j x y e1 e2 => ?_⟩
 by_cases hj : j < a.length
 ·rw [List.getElem?_append_left hj] at e1
  rw [List.getElem?_append_left (by rw [← h.1]; exact hj)] at e2
  exact h.2 j x y e1 e2
 ·rw [List.getElem?_append_right (by omega)] at e1
  rw [List.getElem?_append_right (by rw [← h.1]; omega), ← h.1] at e2
  exact k.2 _ x y e1 e2

theorem sol_id {objs : List (List PV)} {n0 k : Nat} {v : PV} (h : v.free = true) : sol objs n0 (k + 1) v = some v := by
 unfold sol; rw [if_pos h]

theorem sol_one {objs : List (List PV)} {n0 k : Nat} {c d : PV} (hs : sol objs n0 k c = some d) (ho : c.one = true) : d.one = true := by
 cases k with
 | zero => simp [sol] at hs
 | succ k =>
  unfold sol at hs
  split at hs
  ·cases hs; exact ho
  ·cases c <;> simp only at hs <;> (first | (cases hs; done) | (simp [PV.one] at ho; done) | skip)
   all_goals
    repeat (first | (cases hs; done) | split at hs)
    all_goals first | (cases hs; done) | (cases hs; rfl)

theorem sol_cells {objs : List (List PV)} {n0 k : Nat} {v d : PV} (h : sol objs n0 k v = some d) : SolL objs n0 (k + 1) v.cells d.cells ∧ (v.cells.all PV.one = true → d.cells.all PV.one = true) := by
 cases k with
 | zero => simp [sol] at h
 | succ k =>
  have h0 := h
  unfold sol at h
  split at h
  ·rename_i hf
   cases h
   refine ⟨⟨rfl, fun j c d h1 h2 => ?_⟩, id⟩
   rw [h1] at h2; cases h2
   exact ⟨k + 1, by omega, sol_id (cells_free hf c (List.mem_of_getElem? h1))⟩
  ·have one : ∀ {v d : PV}, sol objs n0 (k + 1) v = some d → SolL objs n0 (k + 2) [v] [d] := fun h => ⟨rfl, fun j c e h1 h2 => by
    cases j with
    | zero => simp at h1 h2; subst h1; subst h2; exact ⟨k + 1, by omega, h⟩
    | succ j => simp at h1⟩
   cases v <;> simp only at h <;> try (cases h; done)
   case agg cs hnf =>
    split at h
    ·rename_i ds hm
     cases h
     obtain ⟨q1, q2⟩ := mapO_get hm
     refine ⟨⟨q1, fun j c d e1 e2 => ⟨k, by omega, q2 j c d e1 e2⟩⟩, fun ho => ?_⟩
     simp only [PV.cells] at ho ⊢
     rw [List.all_eq_true] at ho ⊢
     intro x hx
     obtain ⟨j, hj⟩ := List.getElem?_of_mem hx
     have hlt : j < cs.length := by rw [q1]; exact (List.getElem?_eq_some_iff.1 hj).1
     exact sol_one (q2 j cs[j] x (List.getElem?_eq_getElem hlt) hj) (ho _ (by simp))
    ·cases h
   all_goals
    repeat (first | (cases h; done) | split at h)
    all_goals first
     | (cases h; done)
     | (cases h; exact ⟨one h0, fun _ => rfl⟩)
     | (cases h; exact ⟨one h0, fun ho => by simp [PV.cells, PV.one] at ho⟩)

theorem flat_sol {objs : List (List PV)} {n0 K : Nat} : ∀ {es ds : List PV}, SolL objs n0 K es ds → SolL objs n0 K (es.flatMap PV.cells) (ds.flatMap PV.cells)
 | [], [], _ => ⟨rfl, fun j c d h => by simp at h⟩
 | [], _ :: _, h => absurd h.1 (by simp)
 | _ :: _, [], h => absurd h.1 (by simp)
 | e :: es, d :: ds, h => by
  simp only [List.flatMap_cons]
  obtain ⟨k, hk, hs⟩ := h.2 0 e d rfl rfl
  have h1 := (sol_cells hs).1
  refine SolL.append ⟨h1.1, fun j c x e1 e2 => ?_⟩ (flat_sol ⟨by simpa using h.1, fun j c x e1 e2 => h.2 (j + 1) c x (by simpa using e1) (by simpa using e2)⟩)
  obtain ⟨k', hk', hs'⟩ := h1.2 j c x e1 e2
  exact ⟨k', by omega, hs'⟩

theorem SolL.elem {objs : List (List PV)} {n0 K : Nat} {es ds : List PV} (h : SolL objs n0 K es ds) {d : PV} (hd : d ∈ ds) : ∃ e ∈ es, ∃ k, k < K ∧ sol objs n0 k e = some d := by
 obtain ⟨j, hj⟩ := List.getElem?_of_mem hd
 have hlt : j < es.length := by rw [h.1]; exact (List.getElem?_eq_some_iff.1 hj).1
 exact ⟨es[j], by simp, h.2 j es[j] d (List.getElem?_eq_getElem hlt) hj⟩

section
variable {X : Tie} {g1 g2 : Gh} {w1 : World} {S1 : St}
theorem sol_vr (hS1 : SR X g1 S1 w1) {n0 : Nat} (h2 : ∀ b x, g1.arr b = some x → g2.arr b = some x) (h3 : ∀ id sz, g1.asz id = some sz → g2.asz id = some sz) (h4 : ∀ b, g1.pub b ≤ g2.pub b)
  (hp : ∀ id b, n0 ≤ id → g1.obj id = some b → ∀ cs, S1.objs[id]? = some cs → cs.length ≤ g2.pub b) :
  ∀ (K k : Nat), k < K → ∀ {v d : PV} {u : Value}, sol S1.objs n0 k v = some d → VR X g1 w1 v u → VR X g2 w1 d u := by
 intro K
 induction K with
 | zero => intro k hk; omega
 | succ K ih =>
  intro k hk v d u h r
  cases k with
  | zero => simp [sol] at h
  | succ k =>
   unfold sol at h
   split at h
   ·rename_i hf; cases h; exact r.ofFree h2 h3 h4 hf
   ·have ihk : ∀ {v d : PV} {u : Value}, sol S1.objs n0 k v = some d → VR X g1 w1 v u → VR X g2 w1 d u := fun h r => ih k (by omega) h r
    have lst : ∀ {cs ds : List PV} {us : Array Value}, mapO (sol S1.objs n0 k) cs = some ds → cs.length = us.size → (∀ (j : Nat) (c : PV) (u : Value), cs[j]? = some c → us[j]? = some u → VR X g1 w1 c u) →
      ds.length = us.size ∧ ∀ (j : Nat) (c : PV) (u : Value), ds[j]? = some c → us[j]? = some u → VR X g2 w1 c u := by
     intro cs ds us hm hl hv
     obtain ⟨q1, q2⟩ := mapO_get hm
     refine ⟨by omega, fun j c u e1 e2 => ?_⟩
     have hlt : j < cs.length := by rw [q1]; exact (List.getElem?_eq_some_iff.1 e1).1
     exact ihk (q2 j cs[j] c (List.getElem?_eq_getElem hlt) e1) (hv j cs[j] u (List.getElem?_eq_getElem hlt) e2)
    cases r with
    | ptr id off b hb =>
     simp only at h
     split at h
     ·rename_i hn0
      split at h
      ·rename_i cs hcs
       split at h
       ·rename_i hoff
        split at h
        ·rename_i ds hm
         cases h
         obtain ⟨q1, q2⟩ := mapO_get hm
         obtain ⟨us, hus⟩ := (obj_cells hS1 hb hcs).drop off
         rw [Nat.zero_add] at hus
         have hlen : ds.length = cs.length - off := by rw [← q1]; simp
         refine .ref ds b off us (by have := hp id b hn0 hb cs hcs; omega) (fun j hj => ?_) (fun j c hc => ?_)
         ·have hlt : j < (cs.drop off).length := by rw [q1]; exact hj
          exact (hus j _ (List.getElem?_eq_getElem hlt)).1
         ·have hlt : j < (cs.drop off).length := by rw [q1]; exact (List.getElem?_eq_some_iff.1 hc).1
          exact ihk (q2 j _ c (List.getElem?_eq_getElem hlt) hc) (hus j _ (List.getElem?_eq_getElem hlt)).2
        ·cases h
       ·cases h
      ·cases h
     ·cases h
    | ref cs b o us hpub hc hv =>
     simp only at h
     split at h
     ·rename_i ds hm
      cases h
      obtain ⟨q1, q2⟩ := mapO_get hm
      refine .ref ds b o us (by have := h4 b; omega) (fun j hj => hc j (by omega)) (fun j c hc' => ?_)
      have hlt : j < cs.length := by rw [q1]; exact (List.getElem?_eq_some_iff.1 hc').1
      exact ihk (q2 j _ c (List.getElem?_eq_getElem hlt) hc') (hv j _ (List.getElem?_eq_getElem hlt))
     ·cases h
    | slz aa =>
     simp only [mapO] at h
     cases h
     exact .slz aa
    | sl tip es sp b o cap sz us hcap hpos hsz hpub hc hv hlink hone =>
     simp only at h
     split at h
     ·rename_i a c ha hc'
      cases h
      have s1 := solL_of ha
      have s2 := solL_of hc'
      have s := s1.append s2
      have sf := flat_sol s
      have l1 := s1.1
      have l2 := s2.1
      have := VR.sl (X := X) (g := g2) (w := w1) tip a c b o cap sz us (by omega) hpos
       (fun e he => by
        obtain ⟨e', he', k', _, hs'⟩ := s.elem he
        rw [← (sol_cells hs').1.1, hsz e' he'])
       (by have := h4 b; rw [← l1, ← l2]; omega) (fun j hj => hc j (by rw [l1, l2]; exact hj))
       (fun j x hx => by
        have hlt : j < ((es ++ sp).flatMap PV.cells).length := by rw [sf.1]; exact (List.getElem?_eq_some_iff.1 hx).1
        obtain ⟨k', hk', hs'⟩ := sf.2 j _ x (List.getElem?_eq_getElem hlt) hx
        exact ih k' (by omega) hs' (hv j _ (List.getElem?_eq_getElem hlt)))
       (fun id e ht hs => by
        subst hs
        have : sp = [] := List.length_eq_zero_iff.1 (by simpa using l2)
        obtain ⟨k1, k2, k3⟩ := hlink id e ht this
        refine ⟨by omega, h3 _ _ k2, ?_⟩
        rcases k3 with k3 | ⟨base, k4, k5, k6⟩
        ·exact .inl (by omega)
        ·exact .inr ⟨base, h2 _ _ k4, by rw [← l1]; exact k5, k6⟩)
       (fun e he => by
        obtain ⟨e', he', k', _, hs'⟩ := s.elem he
        exact (sol_cells hs').2 (hone e' he'))
      rw [l1]
      exact this
     ·cases h
    | emp a => simp only at h; cases h; exact .slz a
    | osl id off len sz cap b hb hl hr =>
     simp only at h
     split at h
     ·rename_i hn0
      split at h
      ·rename_i cs hcs
       split at h
       ·rename_i hoff
        split at h
        ·rename_i ds hm
         cases h
         obtain ⟨q1, q2⟩ := mapO_get hm
         obtain ⟨us, hus⟩ := (obj_cells hS1 hb hcs).drop off
         rw [Nat.zero_add] at hus
         have hlen : ds.length = len * sz := by rw [← q1]; simp; omega
         have hone : ds.all PV.one = true := by
          rw [List.all_eq_true]
          intro x hx
          obtain ⟨j, hj⟩ := List.getElem?_of_mem hx
          have hlt : j < ((cs.drop off).take (len * sz)).length := by rw [q1]; exact (List.getElem?_eq_some_iff.1 hj).1
          have hmem := (List.all_eq_true.1 hoff.2) _ (List.getElem_mem hlt)
          exact sol_one (q2 j _ x (List.getElem?_eq_getElem hlt) hj) hmem
         have htk : ds.take (len * sz) = ds := by rw [← hlen]; exact List.take_length
         have hfl := chunk_flat (sz := sz) len ds (by omega) (by rw [htk]; exact hone)
         rw [htk] at hfl
         have hmm := chunk_mem (sz := sz) len ds (by omega) (by rw [htk]; exact hone)
         have := VR.sl (X := X) (g := g2) (w := w1) none (chunk sz len ds) [] b off cap sz us (by rw [chunk_length]; simpa using hl) hn0.2
          (fun e he => by rw [List.append_nil] at he; exact (hmm e he).1)
          (by rw [chunk_length]; have := hp id b hn0.1 hb cs hcs; simp; omega)
          (fun j hj => by
           rw [chunk_length] at hj
           have hj' : j < (cs.drop off).length := by simp at hj ⊢; omega
           exact (hus j _ (List.getElem?_eq_getElem hj')).1)
          (fun j c hc => by
           rw [List.append_nil, hfl] at hc
           have hjl : j < ds.length := (List.getElem?_eq_some_iff.1 hc).1
           have hlt : j < ((cs.drop off).take (len * sz)).length := by rw [q1]; exact hjl
           have e1 : ((cs.drop off).take (len * sz))[j]? = some ((cs.drop off).take (len * sz))[j] := List.getElem?_eq_getElem hlt
           refine ihk (q2 j _ c e1 hc) ?_
           rw [List.getElem?_take_of_lt (by omega)] at e1
           exact (hus j _ e1).2)
          (fun id e ht _ => by cases ht) (fun e he => by rw [List.append_nil] at he; exact (hmm e he).2)
         rw [chunk_length] at this
         exact this
        ·cases h
       ·cases h
      ·cases h
     ·cases h
    | iface t v u hv =>
     simp only at h
     split at h
     ·rename_i hm; cases h; exact .iface t _ u (ihk hm hv)
     ·cases h
    | agg cs us hl hv =>
     simp only at h
     split at h
     ·rename_i hm; cases h; obtain ⟨q1, q2⟩ := lst hm hl hv; exact .agg _ us q1 q2
     ·cases h
    | tup cs us hl hv =>
     simp only at h
     split at h
     ·rename_i hm; cases h; obtain ⟨q1, q2⟩ := lst hm hl hv; exact .tup _ us q1 q2
     ·cases h
    | fn f cs us hl hv =>
     simp only at h
     split at h
     ·rename_i hm; cases h; obtain ⟨q1, q2⟩ := lst hm hl hv; exact .fn f _ us q1 q2
     ·cases h
    | _ => simp only at h; cases h

end
open Classical in
noncomputable def pubS (g1 : Gh) (n0 : Nat) (S1 : St) (b : Nat) : Nat :=
 if h : ∃ id, n0 ≤ id ∧ g1.obj id = some b ∧ Live S1 id then ((S1.objs[Classical.choose h]?).getD []).length else g1.pub b

section
variable {X : Tie} {g1 : Gh} {w1 : World} {S1 : St} {n0 : Nat}
theorem pubS_eq {b : Nat} (h : ∀ id, n0 ≤ id → Live S1 id → g1.obj id ≠ some b) : pubS g1 n0 S1 b = g1.pub b := by
 unfold pubS
 rw [dif_neg]
 rintro ⟨id, h1, h2, h3⟩
 exact h id h1 h3 h2

theorem pubS_ge (hS1 : SR X g1 S1 w1) (b : Nat) : g1.pub b ≤ pubS g1 n0 S1 b := by
 unfold pubS
 split
 ·rename_i h
  obtain ⟨id, h1, h2, h3⟩ := h
  rw [(hS1.objpub id b h2).1 h3]
  exact Nat.zero_le _
 ·exact Nat.le_refl _

theorem pubS_obj (hS1 : SR X g1 S1 w1) (id b : Nat) (hn : n0 ≤ id) (hb : g1.obj id = some b) (cs : List PV) (hcs : S1.objs[id]? = some cs) : cs.length ≤ pubS g1 n0 S1 b := by
 cases cs with
 | nil => exact Nat.zero_le _
 | cons c l =>
 have hlv : Live S1 id := ⟨c, l, hcs⟩
 unfold pubS
 have h : ∃ id, n0 ≤ id ∧ g1.obj id = some b ∧ Live S1 id := ⟨id, hn, hb, hlv⟩
 rw [dif_pos h]
 obtain ⟨_, c1, c2⟩ := Classical.choose_spec h
 have e1 := hS1.inj _ _ _ c1 hb hlv
 have e2 := hS1.inj _ _ _ hb c1 c2
 have : Classical.choose h = id := by omega
 rw [this, hcs]
 exact Nat.le_refl _

end
end Ps
