/- The disk: its state, in plain words; the first functions. -/
import Derived.Test.YtidloidlffjimaaTie
import Derived.Test.YtidloidlffjimaaOk
import Derived.Test.YtidloidlffjimaaRow
namespace Ps
set_option linter.unusedSimpArgs false
set_option linter.unusedVariables false
open Go
abbrev Nm := List UInt8
abbrev Ent := Nm × Nm × Option Nat

structure Dk where
 room : Int
 left : Int
 done : Int
 dark : Bool
 bi : Nat
 li : Nat
 base : List (Nm × Nat)
 live : List (Nm × Nat)
 wait : List Ent
 wv : PV
 fl : List Nat
 fb : Nat → List UInt8
 fs : Nat → Nat
 fv : Nat → PV

def mcells : List (Nm × Nat) → List PV
 | [] => []
 | (k, f) :: l => .str k :: .ptr f 0 :: mcells l
def fptr : Option Nat → PV
 | some f => .ptr f 0
 | none => .nilp
def entV (x : Ent) : PV := .agg [.str x.1, .str x.2.1, fptr x.2.2]
def dcells (D : Dk) : List PV := [.int .i64 D.room, .map D.bi, .map D.li, D.wv, .int .i64 D.left, .int .i64 D.done, .bool D.dark]

def lk (k : Nm) : List (Nm × Nat) → Option Nat
 | [] => none
 | (q, f) :: l => if k == q then some f else lk k l
def put (k : Nm) (f : Nat) : List (Nm × Nat) → List (Nm × Nat)
 | [] => [(k, f)]
 | (q, u) :: l => if k == q then (k, f) :: l else (q, u) :: put k f l
def del (k : Nm) : List (Nm × Nat) → List (Nm × Nat)
 | [] => []
 | (q, u) :: l => if k == q then l else (q, u) :: del k l

theorem mcells_even : ∀ l : List (Nm × Nat), (mcells l).length % 2 = 0
 | [] => rfl
 | (q, u) :: l => by have := mcells_even l; simp only [mcells, List.length_cons]; omega
theorem mfind_mc (k : Nm) : ∀ l : List (Nm × Nat), mfind (.str k) (mcells l) = some ((lk k l).map fun f => .ptr f 0)
 | [] => rfl
 | (q, f) :: l => by
  simp only [mcells, mfind, keyEq, lk]
  cases h : (k == q)
  ·simpa using mfind_mc k l
  ·simp
theorem mput_mc (k : Nm) (f : Nat) : ∀ l : List (Nm × Nat), mput (.str k) (.ptr f 0) (mcells l) = some (mcells (put k f l))
 | [] => rfl
 | (q, u) :: l => by
  simp only [mcells, mput, keyEq, put]
  cases h : (k == q)
  ·simp only [mput_mc k f l]; rfl
  ·simp [mcells_even, mcells]
theorem mdel_mc (k : Nm) : ∀ l : List (Nm × Nat), mdelP (.str k) (mcells l) = some (mcells (del k l))
 | [] => rfl
 | (q, u) :: l => by
  simp only [mcells, mdelP, keyEq, del]
  cases h : (k == q)
  ·simp only [mdel_mc k l]; rfl
  ·simp [mcells_even]
theorem mcells_len : ∀ l : List (Nm × Nat), (mcells l).length = 2 * l.length
 | [] => rfl
 | (q, u) :: l => by simp only [mcells, List.length_cons, mcells_len l]; omega
theorem entsOf_mc : ∀ l : List (Nm × Nat), entsOf (mcells l) = l.map fun p => (.str p.1, .ptr p.2 0)
 | [] => rfl
 | (q, u) :: l => by simp only [mcells, entsOf, entsOf_mc l, List.map_cons]
theorem keysOf_mc : ∀ l : List (Nm × Nat), keysOf (mcells l) = some (l.map (·.1))
 | [] => rfl
 | (q, u) :: l => by simp only [mcells, keysOf, keysOf_mc l, List.map_cons]

def doE (x : Ent) (l : List (Nm × Nat)) : List (Nm × Nat) :=
 match x.2.2 with
 | some f => if x.2.1 = [] then l else put x.2.1 f l
 | none => match lk x.1 l with
  | some f => if x.2.1 = [] then del x.1 l else put x.2.1 f (del x.1 l)
  | none => del x.1 l

inductive Hist : List (Nm × Nat) → List Ent → List (Nm × Nat) → Prop where
 | nil (b : List (Nm × Nat)) : Hist b [] b
 | snoc (b : List (Nm × Nat)) (w : List Ent) (l : List (Nm × Nat)) (x : Ent) (h : Hist b w l) (hx : x.2.2 = none → (lk x.1 l).isSome = true) : Hist b (w ++ [x]) (doE x l)

theorem put_len (k : Nm) (f : Nat) : ∀ l : List (Nm × Nat), (put k f l).length ≤ l.length + 1
 | [] => by simp [put]
 | (q, u) :: l => by
  simp only [put]
  split
  ·simp
  ·simp only [List.length_cons]; have := put_len k f l; omega
theorem del_len (k : Nm) : ∀ l : List (Nm × Nat), (del k l).length ≤ l.length
 | [] => by simp [del]
 | (q, u) :: l => by
  simp only [del]
  split
  ·simp
  ·simp only [List.length_cons]; have := del_len k l; omega
theorem mem_put {k : Nm} {f : Nat} {p : Nm × Nat} : ∀ {l : List (Nm × Nat)}, p ∈ put k f l → p = (k, f) ∨ p ∈ l
 | [], h => by simp [put] at h; exact .inl h
 | (q, u) :: l, h => by
  simp only [put] at h
  split at h
  ·rcases List.mem_cons.1 h with h | h
   ·exact .inl h
   ·exact .inr (by simp [h])
  ·rcases List.mem_cons.1 h with h | h
   ·exact .inr (by simp [h])
   ·rcases mem_put h with h | h
    ·exact .inl h
    ·exact .inr (by simp [h])
theorem mem_del {k : Nm} {p : Nm × Nat} : ∀ {l : List (Nm × Nat)}, p ∈ del k l → p ∈ l
 | [], h => by simp [del] at h
 | (q, u) :: l, h => by
  simp only [del] at h
  split at h
  ·simp [h]
  ·rcases List.mem_cons.1 h with h | h
   ·simp [h]
   ·simp [mem_del h]
theorem lk_mem {k : Nm} {f : Nat} : ∀ {l : List (Nm × Nat)}, lk k l = some f → (k, f) ∈ l
 | [], h => by simp [lk] at h
 | (q, u) :: l, h => by
  simp only [lk] at h
  split at h
  ·rename_i e; cases h; simp only [beq_iff_eq] at e; subst e; simp
  ·simp [lk_mem h]

theorem doE_len (x : Ent) (l : List (Nm × Nat)) : (doE x l).length ≤ l.length + 1 := by
 unfold doE
 split
 ·split
  ·omega
  ·exact put_len _ _ _
 ·have h1 := del_len x.1 l
  split
  ·split
   ·omega
   ·have := put_len x.2.1 (by assumption) (del x.1 l); omega
  ·omega
theorem mem_doE {x : Ent} {l : List (Nm × Nat)} {p : Nm × Nat} (h : p ∈ doE x l) : p ∈ l ∨ (p.1 = x.2.1 ∧ (x.2.2 = some p.2 ∨ ∃ q ∈ l, q.2 = p.2)) := by
 unfold doE at h
 split at h
 ·rename_i f hf
  split at h
  ·exact .inl h
  ·rcases mem_put h with h | h
   ·subst h; exact .inr ⟨rfl, .inl hf⟩
   ·exact .inl h
 ·split at h
  ·rename_i f hf
   split at h
   ·exact .inl (mem_del h)
   ·rcases mem_put h with h | h
    ·subst h; exact .inr ⟨rfl, .inr ⟨_, lk_mem hf, rfl⟩⟩
    ·exact .inl (mem_del h)
  ·exact .inl (mem_del h)

theorem Hist.len {b l : List (Nm × Nat)} {w : List Ent} (h : Hist b w l) : l.length ≤ b.length + w.length := by
 induction h with
 | nil => simp
 | snoc w l x _ _ ih => have := doE_len x l; simp only [List.length_append, List.length_cons, List.length_nil]; omega
theorem Hist.names {b l : List (Nm × Nat)} {w : List Ent} (h : Hist b w l) (hb : ∀ p ∈ b, p.1.length ≤ 24) : (∀ x ∈ w, x.2.1.length ≤ 24) → ∀ p ∈ l, p.1.length ≤ 24 := by
 induction h with
 | nil => exact fun _ => hb
 | snoc w l x _ _ ih =>
  intro hw p hp
  have ih := ih (fun x hx => hw x (by simp [hx]))
  rcases mem_doE hp with h | ⟨h, _⟩
  ·exact ih p h
  ·rw [h]; exact hw x (by simp)
theorem Hist.files {b l : List (Nm × Nat)} {w : List Ent} (h : Hist b w l) {P : Nat → Prop} (hb : ∀ p ∈ b, P p.2) : (∀ x ∈ w, ∀ f, x.2.2 = some f → P f) → ∀ p ∈ l, P p.2 := by
 induction h with
 | nil => exact fun _ => hb
 | snoc w l x _ _ ih =>
  intro hw p hp
  have ih := ih (fun x hx => hw x (by simp [hx]))
  rcases mem_doE hp with h | ⟨_, h | ⟨q, hq, h⟩⟩
  ·exact ih p h
  ·exact hw x (by simp) _ h
  ·rw [← h]; exact ih q hq

abbrev Nd (l : List (Nm × Nat)) : Prop := l.Pairwise fun a b => a.1 ≠ b.1
theorem nd_perm {l m : List (Nm × Nat)} (h : l.Perm m) (hn : Nd l) : Nd m := (h.pairwise_iff (fun k => Ne.symm k)).1 hn
theorem put_nd {k : Nm} {f : Nat} : ∀ {l : List (Nm × Nat)}, Nd l → Nd (put k f l)
 | [], _ => by simp [put]
 | (q, u) :: l, h => by
  obtain ⟨h1, h2⟩ := List.pairwise_cons.1 h
  simp only [put]
  split
  ·rename_i e
   simp only [beq_iff_eq] at e
   subst e
   exact List.pairwise_cons.2 ⟨h1, h2⟩
  ·rename_i e
   refine List.pairwise_cons.2 ⟨fun p hp => ?_, put_nd h2⟩
   rcases mem_put hp with rfl | hp
   ·intro q; exact e (by simpa using q.symm)
   ·exact h1 p hp
theorem del_sub (k : Nm) : ∀ l : List (Nm × Nat), (del k l).Sublist l
 | [] => .slnil
 | (q, u) :: l => by
  simp only [del]
  split
  ·exact List.sublist_cons_self _ _
  ·exact (del_sub k l).cons_cons _
theorem del_nd {k : Nm} {l : List (Nm × Nat)} (h : Nd l) : Nd (del k l) := h.sublist (del_sub k l)
theorem doE_nd {x : Ent} {l : List (Nm × Nat)} (h : Nd l) : Nd (doE x l) := by
 unfold doE
 split
 ·split
  ·exact h
  ·exact put_nd h
 ·split
  ·split
   ·exact del_nd h
   ·exact put_nd (del_nd h)
  ·exact del_nd h
theorem lk_cons (k : Nm) (p : Nm × Nat) (l : List (Nm × Nat)) : lk k (p :: l) = if k == p.1 then some p.2 else lk k l := by obtain ⟨q, f⟩ := p; rfl
theorem put_cons (k : Nm) (f : Nat) (p : Nm × Nat) (l : List (Nm × Nat)) : put k f (p :: l) = if k == p.1 then (k, f) :: l else p :: put k f l := by obtain ⟨q, u⟩ := p; rfl
theorem del_cons (k : Nm) (p : Nm × Nat) (l : List (Nm × Nat)) : del k (p :: l) = if k == p.1 then l else p :: del k l := by obtain ⟨q, u⟩ := p; rfl
theorem lk_permP {l m : List (Nm × Nat)} (h : l.Perm m) (k : Nm) : Nd l → lk k l = lk k m := by
 induction h with
 | nil => intro _; rfl
 | cons x _ ih => intro hn; rw [lk_cons, lk_cons, ih (List.pairwise_cons.1 hn).2]
 | swap x y l =>
  intro hn
  have hne := (List.pairwise_cons.1 hn).1 x (by simp)
  simp only [lk_cons]
  by_cases e1 : (k == y.1) = true <;> by_cases e2 : (k == x.1) = true <;> simp_all
 | trans h1 _ ih1 ih2 => intro hn; rw [ih1 hn, ih2 (nd_perm h1 hn)]
theorem put_permP {l m : List (Nm × Nat)} (h : l.Perm m) (k : Nm) (f : Nat) : Nd l → (put k f l).Perm (put k f m) := by
 induction h with
 | nil => intro _; exact .refl _
 | cons x hp ih =>
  intro hn
  rw [put_cons, put_cons]
  split
  ·exact hp.cons _
  ·exact (ih (List.pairwise_cons.1 hn).2).cons _
 | swap x y l =>
  intro hn
  have hne := (List.pairwise_cons.1 hn).1 x (by simp)
  simp only [put_cons]
  by_cases e1 : (k == y.1) = true
  ·have e2 : (k == x.1) = false := by
    rw [beq_iff_eq] at e1
    simp only [beq_eq_false_iff_ne, ne_eq]; rw [e1]; exact hne
   simp only [e1, e2, if_true, Bool.false_eq_true, if_false]
   exact List.Perm.swap _ _ _
  ·have e1 : (k == y.1) = false := by simpa using e1
   by_cases e2 : (k == x.1) = true
   ·simp only [e1, e2, if_true, Bool.false_eq_true, if_false]
    exact List.Perm.swap _ _ _
   ·have e2 : (k == x.1) = false := by simpa using e2
    simp only [e1, e2, Bool.false_eq_true, if_false]
    exact List.Perm.swap _ _ _
 | trans h1 _ ih1 ih2 => intro hn; exact (ih1 hn).trans (ih2 (nd_perm h1 hn))
theorem del_permP {l m : List (Nm × Nat)} (h : l.Perm m) (k : Nm) : Nd l → (del k l).Perm (del k m) := by
 induction h with
 | nil => intro _; exact .refl _
 | cons x hp ih =>
  intro hn
  rw [del_cons, del_cons]
  split
  ·exact hp
  ·exact (ih (List.pairwise_cons.1 hn).2).cons _
 | swap x y l =>
  intro hn
  have hne := (List.pairwise_cons.1 hn).1 x (by simp)
  simp only [del_cons]
  by_cases e1 : (k == y.1) = true
  ·have e2 : (k == x.1) = false := by
    rw [beq_iff_eq] at e1
    simp only [beq_eq_false_iff_ne, ne_eq]; rw [e1]; exact hne
   simp only [e1, e2, if_true, Bool.false_eq_true, if_false]
   exact .refl _
  ·have e1 : (k == y.1) = false := by simpa using e1
   by_cases e2 : (k == x.1) = true
   ·simp only [e1, e2, if_true, Bool.false_eq_true, if_false]
    exact .refl _
   ·have e2 : (k == x.1) = false := by simpa using e2
    simp only [e1, e2, Bool.false_eq_true, if_false]
    exact List.Perm.swap _ _ _
 | trans h1 _ ih1 ih2 => intro hn; exact (ih1 hn).trans (ih2 (nd_perm h1 hn))
theorem doE_permP {x : Ent} {l m : List (Nm × Nat)} (h : l.Perm m) (hn : Nd l) : (doE x l).Perm (doE x m) := by
 unfold doE
 rw [← lk_permP h x.1 hn]
 split
 ·split
  ·exact h
  ·exact put_permP h _ _ hn
 ·split
  ·split
   ·exact del_permP h _ hn
   ·exact put_permP (del_permP h _ hn) _ _ (del_nd hn)
  ·exact del_permP h _ hn
theorem Hist.nd {b l : List (Nm × Nat)} {w : List Ent} (h : Hist b w l) : Nd b → Nd l := by
 induction h with
 | nil => exact id
 | snoc w l x _ _ ih => exact fun hb => doE_nd (ih hb)
def HistP (b : List (Nm × Nat)) (w : List Ent) (m : List (Nm × Nat)) : Prop := Nd b ∧ ∃ l, Hist b w l ∧ l.Perm m
theorem HistP.nil {b : List (Nm × Nat)} (h : Nd b) : HistP b [] b := ⟨h, b, .nil b, .refl _⟩
theorem HistP.nd {b m : List (Nm × Nat)} {w : List Ent} (h : HistP b w m) : Nd m := by
 obtain ⟨h1, l, h2, h3⟩ := h
 exact nd_perm h3 (h2.nd h1)
theorem HistP.snoc {b m : List (Nm × Nat)} {w : List Ent} {x : Ent} (h : HistP b w m) (hx : x.2.2 = none → (lk x.1 m).isSome = true) : HistP b (w ++ [x]) (doE x m) := by
 obtain ⟨h1, l, h2, h3⟩ := h
 exact ⟨h1, _, .snoc b w l x h2 (fun e => by rw [lk_permP h3 _ (h2.nd h1)]; exact hx e), doE_permP h3 (h2.nd h1)⟩
theorem HistP.len {b m : List (Nm × Nat)} {w : List Ent} (h : HistP b w m) : m.length ≤ b.length + w.length := by
 obtain ⟨_, l, h2, h3⟩ := h
 rw [← h3.length_eq]; exact h2.len
theorem HistP.names {b m : List (Nm × Nat)} {w : List Ent} (h : HistP b w m) (hb : ∀ p ∈ b, p.1.length ≤ 24) (hw : ∀ x ∈ w, x.2.1.length ≤ 24) : ∀ p ∈ m, p.1.length ≤ 24 := by
 obtain ⟨_, l, h2, h3⟩ := h
 exact fun p hp => h2.names hb hw p (h3.mem_iff.2 hp)
theorem HistP.files {b m : List (Nm × Nat)} {w : List Ent} (h : HistP b w m) {P : Nat → Prop} (hb : ∀ p ∈ b, P p.2) (hw : ∀ x ∈ w, ∀ f, x.2.2 = some f → P f) : ∀ p ∈ m, P p.2 := by
 obtain ⟨_, l, h2, h3⟩ := h
 exact fun p hp => h2.files hb hw p (h3.mem_iff.2 hp)

def SlT (S : St) (sz : Nat) (v : PV) (es : List PV) : Prop := (v = .nils ∧ es = []) ∨ ∃ k e, v = .sl (some (k, e)) es [] ∧ S.tips[k]? = some (e, sz)
def tid : PV → Option Nat
 | .sl (some (k, _)) _ _ => some k
 | _ => none

structure At (S : St) (o K : Nat) (D : Dk) : Prop where
 obj : S.objs[o]? = some (dcells D)
 base : S.objs[D.bi]? = some (mcells D.base)
 live : S.objs[D.li]? = some (mcells D.live)
 wv : SlT S 3 D.wv (D.wait.map entV)
 file : ∀ f ∈ D.fl, S.objs[f]? = some [D.fv f, .int .i64 (D.fs f)] ∧ SlT S 1 (D.fv f) (ofBytes (D.fb f)) ∧ D.fs f ≤ (D.fb f).length ∧ ((D.fb f).length : Int) ≤ D.room
 inb : ∀ p ∈ D.base, p.2 ∈ D.fl
 inw : ∀ x ∈ D.wait, ∀ f, x.2.2 = some f → f ∈ D.fl
 nd : o ≠ D.bi ∧ o ≠ D.li ∧ D.bi ≠ D.li ∧ ∀ f ∈ D.fl, f ≠ o ∧ f ≠ D.bi ∧ f ≠ D.li
 tw : ∀ f ∈ D.fl, ∀ k, tid D.wv = some k → tid (D.fv f) ≠ some k
 tf : ∀ f ∈ D.fl, ∀ g ∈ D.fl, f ≠ g → ∀ k, tid (D.fv f) = some k → tid (D.fv g) ≠ some k
 hist : HistP D.base D.wait D.live
 nb : ∀ p ∈ D.base, p.1.length ≤ 24
 nw : ∀ x ∈ D.wait, x.2.1.length ≤ 24
 rm : 1 ≤ D.room ∧ D.room ≤ 4194304
 cnt : D.base.length + D.wait.length ≤ K
 dn : 0 ≤ D.done ∧ D.done ≤ K
 lf : -1 ≤ D.left ∧ D.left ≤ 9223372036854775807

theorem At.inl {S : St} {o K : Nat} {D : Dk} (h : At S o K D) : ∀ p ∈ D.live, p.2 ∈ D.fl := h.hist.files h.inb h.inw
theorem At.nl {S : St} {o K : Nat} {D : Dk} (h : At S o K D) : ∀ p ∈ D.live, p.1.length ≤ 24 := h.hist.names h.nb h.nw
theorem At.ll {S : St} {o K : Nat} {D : Dk} (h : At S o K D) : D.live.length ≤ K := Nat.le_trans h.hist.len h.cnt
theorem At.mono {S : St} {o K K' : Nat} {D : Dk} (h : At S o K D) (hk : K ≤ K') : At S o K' D :=
 { h with cnt := Nat.le_trans h.cnt hk, dn := ⟨h.dn.1, by have := h.dn.2; omega⟩ }

theorem At.grow {S : St} {o K : Nat} {D : Dk} (h : At S o K D) {S' : St} (ho : ∀ (i : Nat) (c : List PV), S.objs[i]? = some c → S'.objs[i]? = some c) (ht : ∀ (i : Nat) (c : Nat × Nat), S.tips[i]? = some c → S'.tips[i]? = some c) : At S' o K D where
 obj := ho _ _ h.obj
 base := ho _ _ h.base
 live := ho _ _ h.live
 wv := by
  rcases h.wv with w | ⟨k, e, w1, w2⟩
  ·exact .inl w
  ·exact .inr ⟨k, e, w1, ht _ _ w2⟩
 file := fun f hf => by
  obtain ⟨h1, h2, h3⟩ := h.file f hf
  refine ⟨ho _ _ h1, ?_, h3⟩
  rcases h2 with w | ⟨k, e, w1, w2⟩
  ·exact .inl w
  ·exact .inr ⟨k, e, w1, ht _ _ w2⟩
 inb := h.inb
 inw := h.inw
 nd := h.nd
 tw := h.tw
 tf := h.tf
 hist := h.hist
 nb := h.nb
 nw := h.nw
 rm := h.rm
 cnt := h.cnt
 dn := h.dn
 lf := h.lf

theorem At.set {S : St} {o K : Nat} {D : Dk} (h : At S o K D) {left done : Int} {dark : Bool} (hl : -1 ≤ left ∧ left ≤ 9223372036854775807) {K' : Nat} (hk : K ≤ K') (hd : 0 ≤ done ∧ done ≤ K') :
  At ⟨S.objs.set o (dcells { D with left := left, done := done, dark := dark }), S.tips⟩ o K' { D with left := left, done := done, dark := dark } where
 obj := by
  have := (List.getElem?_eq_some_iff.1 h.obj).1
  simp [this]
 base := by rw [List.getElem?_set_ne h.nd.1]; exact h.base
 live := by rw [List.getElem?_set_ne h.nd.2.1]; exact h.live
 wv := h.wv
 file := fun f hf => by
  rw [List.getElem?_set_ne (Ne.symm (h.nd.2.2.2 f hf).1)]
  exact h.file f hf
 inb := h.inb
 inw := h.inw
 nd := h.nd
 tw := h.tw
 tf := h.tf
 hist := h.hist
 nb := h.nb
 nw := h.nw
 rm := h.rm
 cnt := Nat.le_trans h.cnt hk
 dn := hd
 lf := hl

theorem freeLL_false : ∀ {l : List (List PV)} {c : List PV}, c ∈ l → PV.freeL c = false → freeLL l = false
 | a :: l, c, h, hf => by
  rcases List.mem_cons.1 h with rfl | h
  ·simp [freeLL, hf]
  ·simp [freeLL, freeLL_false h hf]

theorem fin_diff {S S1 : St} {r : PV} {o i : Nat} {c1 c2 m : List PV} (h1 : S.objs[o]? = some c1) (h2 : S1.objs[o]? = some c2) (hne : c1 ≠ c2) (hm : S1.objs[i]? = some m) (hi : i < S.objs.length) (hf : PV.freeL m = false) : finish false S S1 r = (r, S1) := by
 unfold finish
 simp only [Bool.false_eq_true, if_false]
 split
 ·rfl
 ·have ho : o < S.objs.length := (List.getElem?_eq_some_iff.1 h1).1
  have hb : PV.beqLL (S1.objs.take S.objs.length) S.objs = false := by
   cases hb : PV.beqLL (S1.objs.take S.objs.length) S.objs with
   | false => rfl
   | true =>
    exfalso
    have he := beqLL_eq hb
    have : (S1.objs.take S.objs.length)[o]? = some c2 := by rw [List.getElem?_take_of_lt ho]; exact h2
    rw [he, h1] at this
    cases this
    exact hne rfl
  have hl : freeLL (S1.objs.take S.objs.length) = false := by
   refine freeLL_false (c := m) ?_ hf
   have : (S1.objs.take S.objs.length)[i]? = some m := by rw [List.getElem?_take_of_lt hi]; exact hm
   exact List.mem_of_getElem? this
  rw [hb, hl]
  simp

theorem dcells_free (D : Dk) : PV.freeL (dcells D) = false := by simp [dcells, PV.freeL, PV.free]

theorem beqLL_rfl : ∀ l : List (List PV), PV.beqLL l l = true
 | [] => rfl
 | a :: l => by simp [PV.beqLL, beqL_rfl' a, beqLL_rfl l]

theorem fin_same {S : St} {r : PV} : finish false S S r = ((match sol S.objs S.objs.length solFuel r with | none => r | some r' => r'.frz), S) := by
 unfold finish
 simp only [Bool.false_eq_true, if_false]
 split
 ·rename_i h; simp [h]
 ·rename_i r' h
  simp [List.take_length, beqLL_rfl, h]

theorem fin_int {S : St} {k : IntKind} {n : Int} : finish false S S (.int k n) = (.int k n, S) := by
 rw [fin_same]; rfl

theorem set_id {l : List (List PV)} {o : Nat} {c : List PV} (h : l[o]? = some c) : l.set o c = l := by
 have hlt := (List.getElem?_eq_some_iff.1 h).1
 apply List.ext_getElem?
 intro i
 by_cases hi : i = o
 ·subst hi; rw [List.getElem?_set_self hlt, h]
 ·rw [List.getElem?_set_ne (Ne.symm hi)]
theorem fin_seti {S : St} {o : Nat} {c d : List PV} {k : IntKind} {n : Int} (h : S.objs[o]? = some c) (hf : PV.freeL d = false) : finish false S ⟨S.objs.set o d, S.tips⟩ (.int k n) = (.int k n, ⟨S.objs.set o d, S.tips⟩) := by
 by_cases hcd : c = d
 ·subst hcd
  rw [set_id h]
  exact fin_int
 ·have hlt := (List.getElem?_eq_some_iff.1 h).1
  exact fin_diff h (by simp [hlt]) hcd (i := o) (by simp [hlt]) hlt hf

@[simp] theorem part1 {v : PV} {l : List PV} : partOf false 1 (v :: l) = some v := by simp [partOf]
theorem get_set {l : List (List PV)} {o : Nat} {c d : List PV} (h : l[o]? = some c) : (l.set o d)[o]? = some d := List.getElem?_set_self (List.getElem?_eq_some_iff.1 h).1
theorem loadP_set {S : St} {tips : List (Nat × Nat)} {o : Nat} {c d : List PV} (h : S.objs[o]? = some c) {ag : Bool} {n off : Nat} : loadP ⟨S.objs.set o d, tips⟩ ag n (.ptr o off) = partOf ag n (d.drop off) := loadP_ptr (get_set h)

@[simp] theorem eqn_ptr {i o : Nat} {b : Bool} : eqnP b .p (.ptr i o) = some (.bool b) := by cases b <;> rfl
@[simp] theorem eqn_nilp {b : Bool} : eqnP b .p .nilp = some (.bool !b) := by cases b <;> rfl
@[simp] theorem eqn_map {i : Nat} {b : Bool} : eqnP b .m (.map i) = some (.bool b) := by cases b <;> rfl
@[simp] theorem eqn_nilm {b : Bool} : eqnP b .m .nilm = some (.bool !b) := by cases b <;> rfl

def stepR (D : Dk) : Int := if D.dark || D.left == 0 then 6 else 0
def stepD (D : Dk) : Dk := if D.dark || D.left == 0 then { D with dark := true } else { D with left := if D.left > 0 then D.left - 1 else D.left, done := D.done + 1 }

theorem fn_196 : T.fn 196 = some (.code disk_Disk_step) := rfl

theorem step_val {S : St} {o K : Nat} {D : Dk} (h : At S o K D) (hK : K ≤ 1048576) : cval T 196 [.ptr o 0] S = some (.int .i64 (stepR D), ⟨S.objs.set o (dcells (stepD D)), S.tips⟩) ∧ At ⟨S.objs.set o (dcells (stepD D)), S.tips⟩ o (K + 1) (stepD D) := by
 have hob := h.obj
 have hdn := h.dn
 have hlf := h.lf
 obtain ⟨room, left, done, dark, bi, li, base, live, wait, wv, fl, fb, fs, fv⟩ := D
 simp only at hdn hlf
 simp only [dcells] at hob
 have hw1 : IntKind.i64.wrap (done + 1) = done + 1 := wrap_i64 (by omega) (by omega)
 by_cases hl : left = 0
 ·subst hl
  have eD : stepD ⟨room, 0, done, dark, bi, li, base, live, wait, wv, fl, fb, fs, fv⟩ = ⟨room, 0, done, true, bi, li, base, live, wait, wv, fl, fb, fs, fv⟩ := by simp [stepD]
  have eR : stepR ⟨room, 0, done, dark, bi, li, base, live, wait, wv, fl, fb, fs, fv⟩ = 6 := by simp [stepR]
  rw [eD, eR]
  refine ⟨cval_ok' fn_196 rfl ?_, h.set (left := 0) (done := done) (dark := true) hlf (by omega) (by omega)⟩
  simp -implicitDefEqProofs [disk_Disk_step, loadP_ptr hob, pstep, putCells, hob, get_set hob, loadP_set hob]
  exact fin_seti hob (by simp [PV.freeL, PV.free])
 ·have hl' : (left == 0) = false := by simpa using hl
  cases dark with
  | true =>
   have eD : stepD ⟨room, left, done, true, bi, li, base, live, wait, wv, fl, fb, fs, fv⟩ = ⟨room, left, done, true, bi, li, base, live, wait, wv, fl, fb, fs, fv⟩ := by simp [stepD]
   have eR : stepR ⟨room, left, done, true, bi, li, base, live, wait, wv, fl, fb, fs, fv⟩ = 6 := by simp [stepR]
   rw [eD, eR]
   refine ⟨cval_ok' fn_196 rfl ?_, h.set (left := left) (done := done) (dark := true) hlf (by omega) (by omega)⟩
   simp -implicitDefEqProofs [disk_Disk_step, loadP_ptr hob, pstep, putCells, hob, get_set hob, loadP_set hob, hl']
   first
    | (simp only [dcells]; rw [set_id hob])
    | (rw [fin_int]; simp only [dcells]; rw [set_id hob])
  | false =>
   by_cases hp : 0 < left
   ·have hw2 : IntKind.i64.wrap (left - 1) = left - 1 := wrap_i64 (by omega) (by omega)
    have eD : stepD ⟨room, left, done, false, bi, li, base, live, wait, wv, fl, fb, fs, fv⟩ = ⟨room, left - 1, done + 1, false, bi, li, base, live, wait, wv, fl, fb, fs, fv⟩ := by simp [stepD, hl, hp]
    have eR : stepR ⟨room, left, done, false, bi, li, base, live, wait, wv, fl, fb, fs, fv⟩ = 0 := by simp [stepR, hl]
    rw [eD, eR]
    refine ⟨cval_ok' fn_196 rfl ?_, h.set (left := left - 1) (done := done + 1) (dark := false) (by omega) (by omega) (by omega)⟩
    simp -implicitDefEqProofs [disk_Disk_step, loadP_ptr hob, pstep, putCells, hob, get_set hob, loadP_set hob, hl', hp, hw1, hw2]
    exact fin_seti hob (by simp [PV.freeL, PV.free])
   ·have eD : stepD ⟨room, left, done, false, bi, li, base, live, wait, wv, fl, fb, fs, fv⟩ = ⟨room, left, done + 1, false, bi, li, base, live, wait, wv, fl, fb, fs, fv⟩ := by simp [stepD, hl, hp]
    have eR : stepR ⟨room, left, done, false, bi, li, base, live, wait, wv, fl, fb, fs, fv⟩ = 0 := by simp [stepR, hl]
    rw [eD, eR]
    refine ⟨cval_ok' fn_196 rfl ?_, h.set (left := left) (done := done + 1) (dark := false) (by omega) (by omega) (by omega)⟩
    simp -implicitDefEqProofs [disk_Disk_step, loadP_ptr hob, pstep, putCells, hob, get_set hob, loadP_set hob, hl', hp, hw1]
    exact fin_seti hob (by simp [PV.freeL, PV.free])
end Ps
