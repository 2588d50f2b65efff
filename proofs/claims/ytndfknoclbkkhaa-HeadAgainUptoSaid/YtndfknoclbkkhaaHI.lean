/- The head: what stands in the memory, whole; what keeps it. -/
import Derived.Test.YtndfknoclbkkhaaWA
import Derived.Test.YtndfknoclbkkhaaWB
import Derived.Test.YtndfknoclbkkhaaPA
namespace Ps
set_option linter.unusedSimpArgs false
set_option linter.unusedVariables false
open Go
def gl (v : PV) : List Nat := (gidV v).toList
theorem mem_gl {v : PV} {i : Nat} : i ∈ gl v ↔ gidV v = some i := by simp [gl]
def gls (l : List Sr) : List Nat := l.flatMap fun r => gl r.sv
def ownH (o : Nat) (H : Hd) : List Nat := o :: H.mi :: (gl H.hv ++ gls H.ser)
def total (l : List Sr) : Nat := (l.map fun r => r.sm.length).sum
def idsL : Nat → List Sr → List PV
  | _, [] => []
  | i, r :: l => .str (printT r.lb) :: .int .i64 (i : Nat) :: idsL (i + 1) l
def serC (l : List Sr) : List PV := l.flatMap fun r => [r.lv, r.sv]

structure SrOk (S : St) (r : Sr) : Prop where
  at_ : SmAt S r.sv r.sm
  pos : ∀ id, gidV r.sv = some id → ∃ c, S.objs[id]? = some c ∧ c ≠ []
  lab : SlL r.lv r.lb ∧ Right r.lb
  rise : Rises r.sm ∧ ∀ q ∈ r.sm, 0 ≤ q.1 ∧ q.1 ≤ 1099511627776

structure HOk (S : St) (o : Nat) (H : Hd) : Prop where
  obj : S.objs[o]? = some [H.hv, .map H.mi, .int .i64 H.count]
  ids : S.objs[H.mi]? = some (idsL 0 H.ser)
  ser : (H.hv = .nils ∧ H.ser = []) ∨ ∃ si, H.hv = .osl si 0 H.ser.length 2 ∧ S.objs[si]? = some (serC H.ser) ∧ H.ser ≠ []
  all : ∀ r ∈ H.ser, SrOk S r
  dis : (ownH o H).Nodup
  idk : H.ids = idsL 0 H.ser
  cnt : H.count = (total H.ser : Nat)
  szs : H.ser.length ≤ 256
  tot : total H.ser ≤ 65536

theorem HOk.at {S : St} {o : Nat} {H : Hd} (h : HOk S o H) : HAt S o H where
  obj := h.obj
  ids := by rw [h.ids, h.idk]
  ser := by
    rcases h.ser with a | ⟨si, a, b, _⟩
    · exact .inl a
    · exact .inr ⟨si, a, b⟩
  sam := fun r hr => (h.all r hr).at_
  lab := fun r hr => by
    obtain ⟨a, _⟩ := (h.all r hr).lab
    exact ⟨a.free, a.frz, isl_one a.isl⟩

theorem HOk.lt {S : St} {o : Nat} {H : Hd} (h : HOk S o H) : ∀ i ∈ ownH o H, i < S.objs.length := by
  intro i hi
  simp only [ownH, List.mem_cons, List.mem_append] at hi
  rcases hi with rfl | rfl | hi | hi
  · exact (List.getElem?_eq_some_iff.1 h.obj).1
  · exact (List.getElem?_eq_some_iff.1 h.ids).1
  · rcases h.ser with ⟨e, _⟩ | ⟨si, e, hs, _⟩
    · rw [e] at hi; cases hi
    · rw [e, mem_gl] at hi
      cases hi
      exact (List.getElem?_eq_some_iff.1 hs).1
  · obtain ⟨r, hr, hi⟩ := List.mem_flatMap.1 hi
    obtain ⟨c, hc, _⟩ := (h.all r hr).pos i (mem_gl.1 hi)
    exact (List.getElem?_eq_some_iff.1 hc).1

theorem SrOk.mono {S S' : St} {r : Sr} (h : SrOk S r) (hk : ∀ i, gidV r.sv = some i → ∀ x, S.objs[i]? = some x → S'.objs[i]? = some x) : SrOk S' r where
  at_ := by
    rcases h.at_ with a | ⟨id, t, e, ho⟩
    · exact .inl a
    · exact .inr ⟨id, t, e, hk id (by rw [e]; rfl) _ ho⟩
  pos := fun id hid => by
    obtain ⟨c, hc, hn⟩ := h.pos id hid
    exact ⟨c, hk id hid _ hc, hn⟩
  lab := h.lab
  rise := h.rise

theorem HOk.frame {S S' : St} {o : Nat} {H : Hd} (h : HOk S o H) (hk : ∀ i ∈ ownH o H, ∀ x, S.objs[i]? = some x → S'.objs[i]? = some x) : HOk S' o H where
  obj := hk o (by simp [ownH]) _ h.obj
  ids := hk _ (by simp [ownH]) _ h.ids
  ser := by
    rcases h.ser with a | ⟨si, a, b, c⟩
    · exact .inl a
    · exact .inr ⟨si, a, hk si (by simp only [ownH, List.mem_cons, List.mem_append]; exact .inr (.inr (.inl (mem_gl.2 (by rw [a]; rfl))))) _ b, c⟩
  all := fun r hr => (h.all r hr).mono fun i hi x hx => hk i (by
    simp only [ownH, List.mem_cons, List.mem_append]
    exact .inr (.inr (.inr (List.mem_flatMap.2 ⟨r, hr, mem_gl.2 hi⟩)))) x hx
  dis := h.dis
  idk := h.idk
  cnt := h.cnt
  szs := h.szs
  tot := h.tot

structure Stp (o : Nat) (S : St) (H : Hd) (S' : St) (H' : Hd) : Prop where
  keep : ∀ i x, i ∉ ownH o H → S.objs[i]? = some x → S'.objs[i]? = some x
  own : ∀ i ∈ ownH o H', i ∈ ownH o H ∨ S.objs.length ≤ i
  len : S.objs.length ≤ S'.objs.length
theorem Stp.refl {o : Nat} {S : St} {H : Hd} : Stp o S H S H := ⟨fun _ _ _ h => h, fun _ h => .inl h, Nat.le_refl _⟩
theorem Stp.trans {o : Nat} {S S1 S2 : St} {H H1 H2 : Hd} (a : Stp o S H S1 H1) (b : Stp o S1 H1 S2 H2) : Stp o S H S2 H2 where
  keep := fun i x hi hx => b.keep i x (fun h => by
    rcases a.own i h with h | h
    · exact hi h
    · have := (List.getElem?_eq_some_iff.1 hx).1; omega) (a.keep i x hi hx)
  own := fun i hi => by
    rcases b.own i hi with h | h
    · exact a.own i h
    · have := a.len; exact .inr (by omega)
  len := Nat.le_trans a.len b.len
theorem Stp.grow {o : Nat} {S S1 : St} {H : Hd} (hg : ∀ (i : Nat) (x : List PV), S.objs[i]? = some x → S1.objs[i]? = some x) (hl : S.objs.length ≤ S1.objs.length) : Stp o S H S1 H := ⟨fun i x _ h => hg i x h, fun _ h => .inl h, hl⟩
theorem HOk.grow {S S1 : St} {o : Nat} {H : Hd} (h : HOk S o H) (hg : ∀ (i : Nat) (x : List PV), S.objs[i]? = some x → S1.objs[i]? = some x) : HOk S1 o H := h.frame fun i _ x hx => hg i x hx

theorem idsL_app : ∀ (k : Nat) (a b : List Sr), idsL k (a ++ b) = idsL k a ++ idsL (k + a.length) b
  | k, [], b => by simp [idsL]
  | k, r :: a, b => by
    have := idsL_app (k + 1) a b
    simp only [List.cons_append, idsL, this, List.length_cons]
    rw [show k + 1 + a.length = k + (a.length + 1) by omega]
theorem idsL_same {k : Nat} : ∀ {a b : List Sr}, a.map Sr.lb = b.map Sr.lb → idsL k a = idsL k b := by
  intro a
  induction a generalizing k with
  | nil => intro b h; cases b with
    | nil => rfl
    | cons => simp at h
  | cons r a ih =>
    intro b h
    cases b with
    | nil => simp at h
    | cons s b =>
      simp only [List.map_cons, List.cons.injEq] at h
      simp only [idsL, h.1, ih h.2]
theorem total_app (a b : List Sr) : total (a ++ b) = total a + total b := by simp [total]
theorem total_cons (r : Sr) (b : List Sr) : total (r :: b) = r.sm.length + total b := by simp [total]
theorem gls_app (a b : List Sr) : gls (a ++ b) = gls a ++ gls b := by simp [gls]
theorem gls_cons (r : Sr) (b : List Sr) : gls (r :: b) = gl r.sv ++ gls b := by simp [gls]
theorem gl_nodup (v : PV) : (gl v).Nodup := by unfold gl; cases gidV v <;> simp

theorem nodup_mid {α : Type} {a m n b : List α} (h : (a ++ (m ++ b)).Nodup) (hn : n.Nodup) (hx : ∀ x ∈ n, x ∈ m ∨ (x ∉ a ∧ x ∉ b)) : (a ++ (n ++ b)).Nodup := by
  rw [List.nodup_append] at h ⊢
  obtain ⟨h1, h2, h3⟩ := h
  rw [List.nodup_append] at h2
  obtain ⟨h4, h5, h6⟩ := h2
  refine ⟨h1, List.nodup_append.2 ⟨hn, h5, fun x hx1 y hy e => ?_⟩, fun x hx1 y hy e => ?_⟩
  · subst e
    rcases hx x hx1 with q | q
    · exact h6 x q x hy rfl
    · exact q.2 hy
  · subst e
    rcases List.mem_append.1 hy with hy | hy
    · rcases hx x hy with q | q
      · exact h3 x hx1 x (by simp [q]) rfl
      · exact q.1 hx1
    · exact h3 x hx1 x (by simp [hy]) rfl

theorem SrOk.lt {S : St} {r : Sr} (h : SrOk S r) {i : Nat} (hi : gidV r.sv = some i) : i < S.objs.length := by
  obtain ⟨c, hc, _⟩ := h.pos i hi
  exact (List.getElem?_eq_some_iff.1 hc).1

theorem HOk.upd {S S' : St} {o si : Nat} {H : Hd} {a b : List Sr} {r : Sr} (h : HOk S o H) (he : H.ser = a ++ r :: b) (hsi : gidV H.hv = some si) {sv : PV} {sm : List (Int × Int)} {c : Int}
    (h1 : S'.objs[o]? = some [H.hv, .map H.mi, .int .i64 c]) (h2 : S'.objs[si]? = some (serC (a ++ ⟨r.lv, sv, sm, r.lb⟩ :: b)))
    (hk : ∀ i x, i ≠ o → i ≠ si → gidV r.sv ≠ some i → S.objs[i]? = some x → S'.objs[i]? = some x) (hl : S.objs.length ≤ S'.objs.length)
    (hm : SmAt S' sv sm) (hp : ∀ id, gidV sv = some id → ∃ c, S'.objs[id]? = some c ∧ c ≠ []) (hg : ∀ id, gidV sv = some id → gidV r.sv = some id ∨ S.objs.length ≤ id)
    (hr : Rises sm ∧ ∀ q ∈ sm, 0 ≤ q.1 ∧ q.1 ≤ 1099511627776) (hc : c = (total (a ++ ⟨r.lv, sv, sm, r.lb⟩ :: b) : Nat)) (ht : total (a ++ ⟨r.lv, sv, sm, r.lb⟩ :: b) ≤ 65536) :
    HOk S' o ⟨H.hv, H.mi, a ++ ⟨r.lv, sv, sm, r.lb⟩ :: b, H.ids, c⟩ ∧ Stp o S H S' ⟨H.hv, H.mi, a ++ ⟨r.lv, sv, sm, r.lb⟩ :: b, H.ids, c⟩ := by
  have hlen : (a ++ ⟨r.lv, sv, sm, r.lb⟩ :: b).length = H.ser.length := by rw [he]; simp
  have hlt := h.lt
  have hd := h.dis
  have hown : ∀ s : Sr, ownH o ⟨H.hv, H.mi, a ++ s :: b, H.ids, c⟩ = (o :: H.mi :: (gl H.hv ++ gls a)) ++ (gl s.sv ++ gls b) := fun s => by simp [ownH, gls_app, gls_cons]
  have hown0 : ownH o H = (o :: H.mi :: (gl H.hv ++ gls a)) ++ (gl r.sv ++ gls b) := by simp [ownH, he, gls_app, gls_cons]
  rw [hown0] at hd
  have hmi : H.mi ≠ o ∧ H.mi ≠ si ∧ gidV r.sv ≠ some H.mi := by
    have hsm : si ∈ gl H.hv := mem_gl.2 hsi
    have h0 := hd
    simp only [List.cons_append, List.nodup_cons, List.mem_cons, List.mem_append, not_or] at h0
    refine ⟨fun e => h0.1.1 e.symm, fun e => h0.2.1.1.1 (by rw [e]; exact hsm), fun e => h0.2.1.2.1 (mem_gl.2 e)⟩
  have hoth : ∀ s ∈ a ++ b, ∀ i, gidV s.sv = some i → i ≠ o ∧ i ≠ si ∧ gidV r.sv ≠ some i := by
    intro s hs i hi
    have hsm : si ∈ gl H.hv := mem_gl.2 hsi
    have hin : i ∈ gls a ∨ i ∈ gls b := by
      rcases List.mem_append.1 hs with hs | hs
      · exact .inl (List.mem_flatMap.2 ⟨s, hs, mem_gl.2 hi⟩)
      · exact .inr (List.mem_flatMap.2 ⟨s, hs, mem_gl.2 hi⟩)
    have h0 := hd
    rw [List.nodup_append] at h0
    obtain ⟨n1, n2, n3⟩ := h0
    rw [List.nodup_append] at n2
    obtain ⟨_, _, n5⟩ := n2
    simp only [List.nodup_cons, List.mem_cons, List.mem_append, not_or] at n1
    obtain ⟨⟨_, _, na⟩, ⟨_, _⟩, n4⟩ := n1
    rw [List.nodup_append] at n4
    refine ⟨fun e => ?_, fun e => ?_, fun e => ?_⟩
    · subst e
      rcases hin with q | q
      · exact na q
      · exact n3 i (by simp) i (by simp [q]) rfl
    · subst e
      rcases hin with q | q
      · exact n4.2.2 i hsm i q rfl
      · exact n3 i (by simp [hsm]) i (by simp [q]) rfl
    · rcases hin with q | q
      · exact n3 i (by simp [q]) i (by simp [mem_gl.2 e]) rfl
      · exact n5 i (mem_gl.2 e) i q rfl
  have hr0 := h.all r (by rw [he]; simp)
  have hnew : ∀ x ∈ gl sv, x ∈ gl r.sv ∨ (x ∉ o :: H.mi :: (gl H.hv ++ gls a) ∧ x ∉ gls b) := by
    intro x hx
    rcases hg x (mem_gl.1 hx) with q | q
    · exact .inl (mem_gl.2 q)
    · refine .inr ⟨fun hx2 => ?_, fun hx2 => ?_⟩
      · have := hlt x (by rw [hown0]; exact List.mem_append_left _ hx2); omega
      · have := hlt x (by rw [hown0]; exact List.mem_append_right _ (List.mem_append_right _ hx2)); omega
  refine ⟨?_, ?_, ?_, hl⟩
  · exact {
      obj := h1
      ids := by
        have e : idsL 0 (a ++ (⟨r.lv, sv, sm, r.lb⟩ : Sr) :: b) = idsL 0 H.ser := idsL_same (by rw [he]; simp)
        simp only
        rw [e]
        exact hk _ _ hmi.1 hmi.2.1 hmi.2.2 h.ids
      ser := by
        rcases h.ser with ⟨e, _⟩ | ⟨si', e, _, _⟩
        · rw [e] at hsi; cases hsi
        · rw [e] at hsi; cases hsi
          exact .inr ⟨si, by simp only [hlen]; exact e, h2, by simp⟩
      all := fun s hs => by
        rcases List.mem_append.1 hs with q | q
        · exact (h.all s (by rw [he]; simp [q])).mono fun i hi x hx => by
            obtain ⟨b1, b2, b3⟩ := hoth s (by simp [q]) i hi
            exact hk i x b1 b2 b3 hx
        · rcases List.mem_cons.1 q with rfl | q
          · exact ⟨hm, hp, hr0.lab, hr⟩
          · exact (h.all s (by rw [he]; simp [q])).mono fun i hi x hx => by
              obtain ⟨b1, b2, b3⟩ := hoth s (by simp [q]) i hi
              exact hk i x b1 b2 b3 hx
      dis := by rw [hown]; exact nodup_mid hd (gl_nodup _) hnew
      idk := by
        simp only
        rw [h.idk]
        exact idsL_same (by rw [he]; simp)
      cnt := hc
      szs := by simp only [hlen]; exact h.szs
      tot := ht }
  · intro i x hi hx
    rw [hown0] at hi
    simp only [List.cons_append, List.mem_cons, List.mem_append, not_or] at hi
    exact hk i x hi.1 (fun e => hi.2.2.1.1 (by rw [e]; exact mem_gl.2 hsi)) (fun e => hi.2.2.2.1 (mem_gl.2 e)) hx
  · intro i hi
    rw [hown] at hi
    rw [hown0]
    rcases List.mem_append.1 hi with q | q
    · exact .inl (List.mem_append_left _ q)
    · rcases List.mem_append.1 q with q | q
      · rcases hg i (mem_gl.1 q) with w | w
        · exact .inl (List.mem_append_right _ (List.mem_append_left _ (mem_gl.2 w)))
        · exact .inr w
      · exact .inl (List.mem_append_right _ (List.mem_append_right _ q))
end Ps
