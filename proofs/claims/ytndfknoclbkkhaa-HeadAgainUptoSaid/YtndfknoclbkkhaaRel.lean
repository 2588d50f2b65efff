/- How the pure values stand to the model's values in a world, and what a run may turn. -/
import Derived.Test.YtndfknoclbkkhaaDefs
import Derived.Below
import Derived.MapKept
namespace Ps
open Go
structure Tie where
  P : Program
  T : Tbl
  fnOf : Nat → FuncId
  ty : Nat → TypeId
  mn : Nat → String

structure Gh where
  obj : Nat → Option Nat
  arr : Nat → Option (Nat × Nat)
  asz : Nat → Option Nat
  pub : Nat → Nat
  mp : Nat → Option Nat := fun _ => none

def Room (w : World) (b n : Nat) : Prop :=
  ∃ us t lo hi, w.heap[b]? = some (.cells us t (lo, hi)) ∧ n ≤ us.size ∧ (hi ≤ lo ∨ us.size ≤ lo)

inductive VR (X : Tie) (g : Gh) (w : World) : PV → Value → Prop where
  | und (u : Value) : VR X g w .und u
  | int (k : IntKind) (n : Int) : VR X g w (.int k n) (.int k n)
  | bool (b : Bool) : VR X g w (.bool b) (.bool b)
  | str (s : List UInt8) : VR X g w (.str s) (.string ⟨s.toArray⟩)
  | nilp : VR X g w .nilp (.pointer none)
  | nils : VR X g w .nils (.slice none 0 0)
  | nili : VR X g w .nili .nilIface
  | nilf : VR X g w .nilf .nilFunc
  | ptr (id off b : Nat) (h : g.obj id = some b) : VR X g w (.ptr id off) (.pointer (some ⟨b, off, none⟩))
  | ref (cs : List PV) (b o : Nat) (us : Nat → Value) (hpub : o + cs.length ≤ g.pub b)
      (hc : ∀ j, j < cs.length → w.cell? ⟨b, o + j, none⟩ = some (us j)) (hv : ∀ (j : Nat) (c : PV), cs[j]? = some c → VR X g w c (us j)) :
      VR X g w (.ref cs) (.pointer (some ⟨b, o, none⟩))
  | sl (tip : Option (Nat × Nat)) (es sp : List PV) (b o cap sz : Nat) (us : Nat → Value) (hcap : es.length + sp.length ≤ cap) (hpos : 0 < sz)
      (hsz : ∀ e ∈ es ++ sp, e.cells.length = sz) (hpub : o + (es.length + sp.length) * sz ≤ g.pub b)
      (hc : ∀ j, j < (es.length + sp.length) * sz → w.cell? ⟨b, o + j, none⟩ = some (us j))
      (hv : ∀ (j : Nat) (c : PV), ((es ++ sp).flatMap PV.cells)[j]? = some c → VR X g w c (us j))
      (hlink : ∀ id e, tip = some (id, e) → sp = [] → es.length ≤ e ∧ g.asz id = some sz ∧
        (cap = es.length ∨ ∃ base, g.arr b = some (id, base) ∧ base + o + es.length * sz = e * sz ∧ Room w b (o + cap * sz)))
      (hone : ∀ e ∈ es ++ sp, e.cells.all PV.one = true) :
      VR X g w (.sl tip es sp) (.slice (some ⟨b, o, none⟩) es.length cap)
  | slz (a : Addr) : VR X g w (.sl none [] []) (.slice (some a) 0 0)
  | osl (id off len sz cap b : Nat) (h : g.obj id = some b) (hl : len ≤ cap) (hr : 0 < sz → Room w b (off + cap * sz)) : VR X g w (.osl id off len sz) (.slice (some ⟨b, off, none⟩) len cap)
  | emp (a : Addr) : VR X g w .emp (.slice (some a) 0 0)
  | iface (t : Nat) (v : PV) (u : Value) (h : VR X g w v u) : VR X g w (.iface t v) (.iface (X.ty t) u)
  | agg (cs : List PV) (us : Array Value) (hl : cs.length = us.size) (hv : ∀ (j : Nat) (c : PV) (u : Value), cs[j]? = some c → us[j]? = some u → VR X g w c u) :
      VR X g w (.agg cs) (.agg us)
  | tup (cs : List PV) (us : Array Value) (hl : cs.length = us.size) (hv : ∀ (j : Nat) (c : PV) (u : Value), cs[j]? = some c → us[j]? = some u → VR X g w c u) :
      VR X g w (.tup cs) (.tuple us)
  | fn (f : Nat) (cs : List PV) (us : Array Value) (hl : cs.length = us.size) (hv : ∀ (j : Nat) (c : PV) (u : Value), cs[j]? = some c → us[j]? = some u → VR X g w c u) :
      VR X g w (.fn f cs) (.func (.func (X.fnOf f)) #[] us)
  | nilm : VR X g w .nilm (.map none)
  | map (id b : Nat) (h : g.mp id = some b) : VR X g w (.map id) (.map (some b))
  | hnd (b : Nat) : VR X g w (.hnd b) (.pointer (some ⟨b, 0, none⟩))
  | bfn (f : Nat) (cs : List PV) (us : Array Value) (hl : cs.length = us.size) (hv : ∀ (j : Nat) (c : PV) (u : Value), cs[j]? = some c → us[j]? = some u → VR X g w c u) :
      VR X g w (.bfn f cs) (.func (.func (X.fnOf f)) us #[])

inductive MR (X : Tie) (g : Gh) (w : World) : List PV → List MapEntry → Prop where
  | nil : MR X g w [] []
  | cons (k v : PV) (cs : List PV) (e : MapEntry) (es : List MapEntry) (ks : Bool) (hk : VR X g w k e.key) (hkk : isKeyP ks k = true) (hv : VR X g w v e.val) (h : MR X g w cs es) : MR X g w (k :: v :: cs) (e :: es)

theorem MR.imp {X : Tie} {g g' : Gh} {w w' : World} (f : ∀ c u, VR X g w c u → VR X g' w' c u) {cs : List PV} {es : List MapEntry} (h : MR X g w cs es) : MR X g' w' cs es := by
  induction h with
  | nil => exact .nil
  | cons k v cs e es ks hk hkk hv _ ih => exact .cons k v cs e es ks (f _ _ hk) hkk (f _ _ hv) ih

structure Le (g : Gh) (w : World) (g' : Gh) (w' : World) : Prop where
  os : w'.os = w.os
  tape : w'.tape = w.tape
  output : w'.output = w.output
  size : w.heap.size ≤ w'.heap.size
  obj : ∀ id b, g.obj id = some b → g'.obj id = some b
  arr : ∀ b x, g.arr b = some x → g'.arr b = some x
  asz : ∀ id n, g.asz id = some n → g'.asz id = some n
  pub : ∀ b, g.pub b ≤ g'.pub b
  cell : ∀ b j, j < g.pub b → w'.cell? ⟨b, j, none⟩ = w.cell? ⟨b, j, none⟩
  shape : ∀ (b : Nat) (us : Array Value) (t : TypeId) (fz : Nat × Nat), w.heap[b]? = some (.cells us t fz) → ∃ us', w'.heap[b]? = some (.cells us' t fz) ∧ us'.size = us.size
  objN : ∀ id b, g'.obj id = some b → (∃ i, g.obj i = some b) ∨ w.heap.size ≤ b
  arrN : ∀ b x, g'.arr b = some x → g.arr b = some x ∨ w.heap.size ≤ b
  keep : ∀ b, b < w.heap.size → (∀ id, g.obj id ≠ some b) → g.arr b = none → (∀ id, g.mp id ≠ some b) → w'.heap[b]? = w.heap[b]?
  pubN : ∀ b, b < w.heap.size → (∀ id, g.obj id ≠ some b) → g.arr b = none → (∀ id, g.mp id ≠ some b) → g'.pub b = g.pub b
  mp : ∀ id b, g.mp id = some b → g'.mp id = some b
  mpN : ∀ id b, g'.mp id = some b → g.mp id = some b ∨ w.heap.size ≤ b

theorem Le.refl (g : Gh) (w : World) : Le g w g w :=
  ⟨rfl, rfl, rfl, Nat.le_refl _, fun _ _ h => h, fun _ _ h => h, fun _ _ h => h, fun _ => Nat.le_refl _, fun _ _ _ => rfl,
    fun _ us _ _ h => ⟨us, h, rfl⟩, fun id _ h => .inl ⟨id, h⟩, fun _ _ h => .inl h, fun _ _ _ _ _ => rfl, fun _ _ _ _ _ => rfl, fun _ _ h => h, fun _ _ h => .inl h⟩

theorem Le.trans {g g1 g2 : Gh} {w w1 w2 : World} (h : Le g w g1 w1) (k : Le g1 w1 g2 w2) : Le g w g2 w2 where
  os := k.os.trans h.os
  tape := k.tape.trans h.tape
  output := k.output.trans h.output
  size := Nat.le_trans h.size k.size
  obj := fun id b e => k.obj id b (h.obj id b e)
  arr := fun b x e => k.arr b x (h.arr b x e)
  asz := fun id n e => k.asz id n (h.asz id n e)
  pub := fun b => Nat.le_trans (h.pub b) (k.pub b)
  cell := fun b j e => (k.cell b j (Nat.lt_of_lt_of_le e (h.pub b))).trans (h.cell b j e)
  shape := fun b us t fz e => by
    obtain ⟨u1, e1, s1⟩ := h.shape b us t fz e
    obtain ⟨u2, e2, s2⟩ := k.shape b u1 t fz e1
    exact ⟨u2, e2, s2.trans s1⟩
  objN := fun id b e => by
    rcases k.objN id b e with ⟨i, e1⟩ | e1
    · exact h.objN i b e1
    · exact .inr (Nat.le_trans h.size e1)
  arrN := fun b x e => by
    rcases k.arrN b x e with e1 | e1
    · exact h.arrN b x e1
    · exact .inr (Nat.le_trans h.size e1)
  keep := fun b hb ho ha hm => by
    rw [k.keep b (Nat.lt_of_lt_of_le hb h.size) ?_ ?_ ?_, h.keep b hb ho ha hm]
    · intro id e
      rcases h.objN id b e with ⟨i, e1⟩ | e1
      · exact ho i e1
      · omega
    · cases e : g1.arr b with
      | none => rfl
      | some x =>
        rcases h.arrN b x e with e1 | e1
        · rw [ha] at e1; cases e1
        · omega
    · intro id e
      rcases h.mpN id b e with e1 | e1
      · exact hm id e1
      · omega
  pubN := fun b hb ho ha hm => by
    rw [k.pubN b (Nat.lt_of_lt_of_le hb h.size) ?_ ?_ ?_, h.pubN b hb ho ha hm]
    · intro id e
      rcases h.objN id b e with ⟨i, e1⟩ | e1
      · exact ho i e1
      · omega
    · cases e : g1.arr b with
      | none => rfl
      | some x =>
        rcases h.arrN b x e with e1 | e1
        · rw [ha] at e1; cases e1
        · omega
    · intro id e
      rcases h.mpN id b e with e1 | e1
      · exact hm id e1
      · omega
  mp := fun id b e => k.mp id b (h.mp id b e)
  mpN := fun id b e => by
    rcases k.mpN id b e with e1 | e1
    · exact h.mpN id b e1
    · exact .inr (Nat.le_trans h.size e1)

theorem Room.mono {g g' : Gh} {w w' : World} (h : Le g w g' w') {b n : Nat} (r : Room w b n) : Room w' b n := by
  obtain ⟨us, t, lo, hi, e, hn, hf⟩ := r
  obtain ⟨us', e', s'⟩ := h.shape b us t (lo, hi) e
  exact ⟨us', t, lo, hi, e', by omega, by omega⟩

theorem VR.mono {X : Tie} {g g' : Gh} {w w' : World} (h : Le g w g' w') {v : PV} {u : Value} (r : VR X g w v u) : VR X g' w' v u := by
  induction r with
  | und u => exact .und u
  | int k n => exact .int k n
  | bool b => exact .bool b
  | str s => exact .str s
  | nilp => exact .nilp
  | nils => exact .nils
  | nili => exact .nili
  | nilf => exact .nilf
  | ptr id off b e => exact .ptr id off b (h.obj _ _ e)
  | ref cs b o us hpub hc _ ih =>
    exact .ref cs b o us (Nat.le_trans hpub (h.pub b)) (fun j hj => by rw [h.cell b (o + j) (by omega)]; exact hc j hj) ih
  | sl tip es sp b o cap sz us hcap hpos hsz hpub hc _ hlink hone ih =>
    refine .sl tip es sp b o cap sz us hcap hpos hsz (Nat.le_trans hpub (h.pub b)) (fun j hj => by rw [h.cell b (o + j) (by omega)]; exact hc j hj) ih ?_ hone
    intro id e ht hs
    obtain ⟨h1, h2, h3⟩ := hlink id e ht hs
    refine ⟨h1, h.asz _ _ h2, ?_⟩
    rcases h3 with h3 | ⟨base, h4, h5, h6⟩
    · exact .inl h3
    · exact .inr ⟨base, h.arr _ _ h4, h5, h6.mono h⟩
  | slz a => exact .slz a
  | osl id off len sz cap b e hl hr => exact .osl id off len sz cap b (h.obj _ _ e) hl (fun q => (hr q).mono h)
  | emp a => exact .emp a
  | iface t v u _ ih => exact .iface t v u ih
  | agg cs us hl _ ih => exact .agg cs us hl ih
  | tup cs us hl _ ih => exact .tup cs us hl ih
  | fn f cs us hl _ ih => exact .fn f cs us hl ih
  | nilm => exact .nilm
  | map id b e => exact .map id b (h.mp _ _ e)
  | hnd b => exact .hnd b
  | bfn f cs us hl _ ih => exact .bfn f cs us hl ih

structure MapsOk (X : Tie) (g : Gh) (S : St) (w : World) : Prop where
  ent : ∀ id b, g.mp id = some b → ∃ cs es clock, S.objs[id]? = some cs ∧ w.heap[b]? = some (.map es clock) ∧ MapKept.Stamped es clock ∧ MR X g w cs es.toList
  inj : ∀ i j b, g.mp i = some b → g.mp j = some b → i = j
  pub : ∀ i b, g.mp i = some b → g.pub b = 0 ∧ g.arr b = none
  dis : ∀ i b c, g.mp i = some b → g.obj i = some c → False

theorem MapsOk.of {X : Tie} {g g' : Gh} {S S' : St} {w w' : World} (h : MapsOk X g S w) (hmp : ∀ id b, g'.mp id = some b → g.mp id = some b) (hobj : ∀ id b, g.mp id = some b → S'.objs[id]? = S.objs[id]?)
    (hheap : ∀ id b, g.mp id = some b → w'.heap[b]? = w.heap[b]?) (hvr : ∀ c u, VR X g w c u → VR X g' w' c u) (hpub : ∀ id b, g.mp id = some b → g'.pub b = g.pub b ∧ g'.arr b = g.arr b)
    (hdis : ∀ id b c, g.mp id = some b → g'.obj id = some c → g.obj id = some c) : MapsOk X g' S' w' where
  ent := fun id b e => by
    have e := hmp id b e
    obtain ⟨cs, es, clock, h1, h2, h3, h4⟩ := h.ent id b e
    exact ⟨cs, es, clock, by rw [hobj id b e]; exact h1, by rw [hheap id b e]; exact h2, h3, h4.imp hvr⟩
  inj := fun i j b e1 e2 => h.inj i j b (hmp _ _ e1) (hmp _ _ e2)
  pub := fun i b e => by
    obtain ⟨q1, q2⟩ := hpub i b (hmp _ _ e)
    rw [q1, q2]; exact h.pub i b (hmp _ _ e)
  dis := fun i b c e1 e2 => h.dis i b c (hmp _ _ e1) (hdis i b c (hmp _ _ e1) e2)
theorem MapsOk.lt {X : Tie} {g : Gh} {S : St} {w : World} (h : MapsOk X g S w) {i b : Nat} (e : g.mp i = some b) : b < w.heap.size := by
  obtain ⟨_, _, _, _, h2, _⟩ := h.ent i b e
  exact (Array.getElem?_eq_some_iff.1 h2).1
theorem MapsOk.no {X : Tie} {g : Gh} {S : St} {w : World} (h : ∀ i, g.mp i = none) : MapsOk X g S w :=
  ⟨fun i b e => (by rw [h i] at e; cases e), fun i j b e => (by rw [h i] at e; cases e), fun i b e => (by rw [h i] at e; cases e), fun i b c e => (by rw [h i] at e; cases e)⟩

def Live (S : St) (i : Nat) : Prop := ∃ c cs, S.objs[i]? = some (c :: cs)

structure SR (X : Tie) (g : Gh) (S : St) (w : World) : Prop where
  obj : ∀ id b, g.obj id = some b → ∃ cs us t, S.objs[id]? = some cs ∧ w.heap[b]? = some (.cells us t (0, 0)) ∧ cs.length ≤ us.size ∧
    ∀ (j : Nat) (c : PV) (u : Value), cs[j]? = some c → us[j]? = some u → VR X g w c u
  inj : ∀ i j b, g.obj i = some b → g.obj j = some b → Live S j → i ≤ j
  objpub : ∀ i b, g.obj i = some b → (Live S i → g.pub b = 0) ∧ g.arr b = none
  arr : ∀ b id base, g.arr b = some (id, base) → ∃ sz tip, g.asz id = some sz ∧ 0 < sz ∧ S.tips[id]? = some (tip, sz) ∧ base + g.pub b ≤ tip * sz
  asz : ∀ id sz, g.asz id = some sz → ∃ tip, S.tips[id]? = some (tip, sz)
  lt : ∀ b, w.heap.size ≤ b → g.pub b = 0 ∧ g.arr b = none
  maps : MapsOk X g S w

structure Dn where
  n : Nat
  d : List Deferred
instance : CoeOut Dn Nat := ⟨Dn.n⟩

structure FR (X : Tie) (n : Dn) (g : Gh) (w : World) (fr : Fr) (a : Act) : Prop where
  size : a.tmps.size = n
  at_ : ∀ t, VR X g w (fr t) (a.tmps.getD t undef)
  defers : a.defers = n.d

theorem FR.mono {X : Tie} {n : Dn} {g g' : Gh} {w w' : World} {fr : Fr} {a : Act} (h : Le g w g' w') (r : FR X n g w fr a) : FR X n g' w' fr a :=
  ⟨r.size, fun t => (r.at_ t).mono h, r.defers⟩

theorem FR.put {X : Tie} {n : Dn} {g : Gh} {w : World} {fr : Fr} {a : Act} (r : FR X n g w fr a) {d : Option Nat} (hd : ∀ t, d = some t → t < n) {v : PV} {u : Value}
    (hv : VR X g w v u) : FR X n g w (updO fr d v) (a.put d u) := by
  cases d with
  | none => exact r
  | some d =>
    have hd := hd d rfl
    refine ⟨by simp [Act.put, r.size], fun t => ?_, r.defers⟩
    simp only [updO, upd_ite, Act.put]
    by_cases h : t = d
    · subst h
      have hs : t < a.tmps.size := by rw [r.size]; exact hd
      simp [Array.getD, hs, hv]
    · have := r.at_ t
      rw [if_neg h]
      have e : (a.tmps.setIfInBounds d u).getD t undef = a.tmps.getD t undef := by
        simp only [Array.getD_eq_getD_getElem?]
        rw [Array.getElem?_setIfInBounds_ne (Ne.symm h)]
      rw [e]
      exact this

theorem VR.one {X : Tie} {g : Gh} {w : World} {v : PV} {u : Value} (r : VR X g w v u) (h : v.one = true) : u.oneCell' = true := by
  cases r <;> first | rfl | (simp [PV.one] at h)

theorem VR.single {X : Tie} {g : Gh} {w : World} {v : PV} {u : Value} (r : VR X g w v u) (hv : v.cells = [v]) (hu : u.cells = #[u]) :
    v.cells.length = u.cells.size ∧ ∀ (j : Nat) (c : PV) (x : Value), v.cells[j]? = some c → u.cells[j]? = some x → VR X g w c x := by
  rw [hv, hu]
  refine ⟨rfl, fun j c x h1 h2 => ?_⟩
  cases j with
  | zero => simp at h1 h2; subst h1; subst h2; exact r
  | succ j => simp at h1

theorem VR.cells {X : Tie} {g : Gh} {w : World} {v : PV} {u : Value} (r : VR X g w v u) (h : v.cells.all PV.one = true) :
    v.cells.length = u.cells.size ∧ ∀ (j : Nat) (c : PV) (x : Value), v.cells[j]? = some c → u.cells[j]? = some x → VR X g w c x := by
  have hr := r
  cases r with
  | agg cs us hl hv => exact ⟨hl, hv⟩
  | und u => simp [PV.cells, PV.one] at h
  | tup cs us hl hv => simp [PV.cells, PV.one] at h
  | _ => exact hr.single rfl rfl
end Ps
