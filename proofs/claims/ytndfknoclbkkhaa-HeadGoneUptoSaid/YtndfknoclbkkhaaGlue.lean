/- From the pure semantics to the model's calls. -/
import Derived.Test.YtndfknoclbkkhaaSimP
import Derived.Test.YtndfknoclbkkhaaGo
import Derived.ChangeSame
import GoSem.Extern.Table
namespace Ps
open Go


def look {α : Type} : List (Nat × α) → Nat → Option α
  | [], _ => none
  | (k, v) :: l, n => if k = n then some v else look l n

def fnTab (l : List (Nat × Nat)) (d : Nat) (k : Nat) : Nat := (look l k).getD d
def tyTab (l : List (Nat × Nat)) (k : Nat) : Nat := match look l k with | some v => v | none => k + 1000000
def mnTab (l : List (Nat × String)) (k : Nat) : String := (look l k).getD "-"
def methTab : List (Nat × Nat × Nat) → Nat → Nat → Option Nat
  | [], _, _ => none
  | (t, m, f) :: l, a, b => if t = a ∧ m = b then some f else methTab l a b

def valsOk : List (Nat × Nat) → Bool
  | [] => true
  | (_, v) :: l => decide (v < 1000000) && l.all (fun q => q.2 != v) && valsOk l

theorem look_mem {α : Type} : ∀ {l : List (Nat × α)} {k : Nat} {v : α}, look l k = some v → (k, v) ∈ l
  | [], _, _, h => by cases h
  | (a, b) :: l, k, v, h => by
    simp only [look] at h
    split at h
    · rename_i e; cases h; subst e; simp
    · exact List.mem_cons_of_mem _ (look_mem h)

theorem valsOk_lt : ∀ {l : List (Nat × Nat)}, valsOk l = true → ∀ q ∈ l, q.2 < 1000000
  | [], _, q, hq => by simp at hq
  | (a, b) :: l, h, q, hq => by
    simp only [valsOk, Bool.and_eq_true, decide_eq_true_eq] at h
    rcases List.mem_cons.1 hq with rfl | hq
    · exact h.1.1
    · exact valsOk_lt h.2 q hq

theorem look_inj : ∀ {l : List (Nat × Nat)}, valsOk l = true → ∀ {a b v : Nat}, look l a = some v → look l b = some v → a = b
  | [], _, a, b, v, h, _ => by cases h
  | (k, x) :: l, h, a, b, v, ha, hb => by
    simp only [valsOk, Bool.and_eq_true, decide_eq_true_eq, List.all_eq_true, bne_iff_ne, ne_eq] at h
    simp only [look] at ha hb
    split at ha
    · rename_i e
      cases ha
      split at hb
      · rename_i e2; omega
      · exact absurd rfl (h.1.2 (b, x) (look_mem hb))
    · split at hb
      · cases hb
        exact absurd rfl (h.1.2 (a, x) (look_mem ha))
      · exact look_inj h.2 ha hb

theorem tyTab_inj {l : List (Nat × Nat)} (h : valsOk l = true) (a b : Nat) (e : tyTab l a = tyTab l b) : a = b := by
  unfold tyTab at e
  cases ha : look l a with
  | none =>
    cases hb : look l b with
    | none => rw [ha, hb] at e; simp only at e; omega
    | some v =>
      rw [ha, hb] at e; simp only at e
      have := valsOk_lt h _ (look_mem hb)
      simp only at this; omega
  | some u =>
    have hu := valsOk_lt h _ (look_mem ha)
    cases hb : look l b with
    | none => rw [ha, hb] at e; simp only at e hu; omega
    | some v =>
      rw [ha, hb] at e; simp only at e; subst e
      exact look_inj h ha hb

def chkMeth (P : Program) (t : TypeId) (m : String) (f : FuncId) : Bool :=
  match P.info? t with
  | some i => (match i.methods.find? (·.name == m) with
    | some r => r.path.isEmpty && (match r.func with
      | some (g, b) => g == f && (match P.underlying t with | some (.pointer _) => b | some _ => !b | none => false)
      | none => false)
    | none => false)
  | none => false

theorem chkMeth_ok {P : Program} {t : TypeId} {m : String} {f : FuncId} (h : chkMeth P t m f = true) (n : Nat) (u : Value) (w : World) : (Go.method (n + 1) t u m).run P w = .ok (f, u) w := by
  unfold chkMeth at h
  split at h
  · rename_i i hi
    split at h
    · rename_i r hr
      simp only [Bool.and_eq_true] at h
      obtain ⟨hp, h⟩ := h
      split at h
      · rename_i gf b hf
        simp only [Bool.and_eq_true, beq_iff_eq] at h
        obtain ⟨rfl, h⟩ := h
        have hpath : r.path.toList = [] := by
          rw [Array.isEmpty_iff] at hp
          rw [hp]
        split at h
        · rename_i e hu
          subst h
          simp [Go.method, typeInfo, hi, hr, hpath, Go.follow, hf, receiverAt, run_underlying hu, Place.get]
        · rename_i d hne hu
          have hb : b = false := by simpa using h
          subst hb
          simp only [Go.method, typeInfo, Sem.run_bind]
          simp [hi, hr, hpath, Go.follow, hf, receiverAt, run_underlying hu]
          cases d <;> first | rfl | (simp [Place.get]; done) | exact absurd rfl (hne _)
        · cases h
      · cases h
    · cases h
  · cases h

theorem methTab_ok {P : Program} {ty : Nat → TypeId} {mn : Nat → String} {fnOf : Nat → FuncId} : ∀ {l : List (Nat × Nat × Nat)}, l.all (fun q => chkMeth P (ty q.1) (mn q.2.1) (fnOf q.2.2)) = true →
    ∀ (t m f : Nat), methTab l t m = some f → chkMeth P (ty t) (mn m) (fnOf f) = true
  | [], _, _, _, _, h => by cases h
  | (a, b, c) :: l, h, t, m, f, e => by
    simp only [List.all_cons, Bool.and_eq_true] at h
    simp only [methTab] at e
    split at e
    · rename_i q; cases e; obtain ⟨rfl, rfl⟩ := q; exact h.1
    · exact methTab_ok h.2 t m f e


theorem indexByte_run {P : Program} {F : FuncId} {fn : Func} (hf : P.funcs[F]? = some fn) (h1 : (fn.name == "runtime.NumGoroutine") = false) (hb : fn.body.isNone = true) (hx : (Extern.findNext fn).isNone = true)
    (he : Extern.find fn = some Extern.BytealgIndexByte.indexByte) (us : Array Value) (w : World) :
    (callFunc F us).run P w = ((Extern.BytealgIndexByte.indexByte us).run P w).andThen fun v w => .ok (.value v) w := by
  have hx' : Extern.findNext fn = none := by simpa using hx
  simp only [callFunc, Sem.run_bind, run_program, Result.andThen_ok, hf, h1, hb, Bool.false_eq_true, if_false, if_true, run_mark, hx', he, Sem.run_pure]

def Kept (w w' : World) : Prop := w'.os = w.os ∧ w'.output = w.output ∧ w.heap.size ≤ w'.heap.size ∧ ∀ b, b < w.heap.size → w'.heap[b]? = w.heap[b]?

theorem kept_of_le {p : Nat → Nat} {g : Gh} {w w' : World} (h : Le (gh0 p) w g w') : Kept w w' :=
  ⟨h.os, h.output, h.size, fun b hb => h.keep b hb (fun id e => absurd e (by simp [gh0])) rfl (fun id e => absurd e (by simp [gh0]))⟩

theorem cval_ok {X : Tie} (hX : TieOk X) : CallOk X (cval X.T) := by
  intro f args S r S' h
  obtain ⟨k, hk⟩ := cval_some.1 h
  exact pcall_ok hX k f args S r S' hk

theorem vrl0 {X : Tie} {g : Gh} {w : World} : VRL X g w [] #[] := ⟨rfl, fun j c u h => by simp at h⟩
theorem vrl1 {X : Tie} {g : Gh} {w : World} {a : PV} {x : Value} (h : VR X g w a x) : VRL X g w [a] #[x] := vrl_cons (us := #[]) h vrl0
theorem vrl2 {X : Tie} {g : Gh} {w : World} {a b : PV} {x y : Value} (h : VR X g w a x) (h2 : VR X g w b y) : VRL X g w [a, b] #[x, y] := vrl_cons (us := #[y]) h (vrl1 h2)
theorem vrl3 {X : Tie} {g : Gh} {w : World} {a b c : PV} {x y z : Value} (h : VR X g w a x) (h2 : VR X g w b y) (h3 : VR X g w c z) : VRL X g w [a, b, c] #[x, y, z] := vrl_cons (us := #[y, z]) h (vrl2 h2 h3)

theorem calls_true {X : Tie} (hX : TieOk X) {f : Nat} {fn : Func} (hfn : X.P.funcs[X.fnOf f]? = some fn) (hname : fn.name ≠ "runtime.NumGoroutine") (hbody0 : fn.body.isSome = true)
    {args : List PV} {S' : St} (h : cval X.T f args St0 = some (.bool true, S')) {p : Nat → Nat} {w : World} (hp : ∀ b, w.heap.size ≤ b → p b = 0) {us : Array Value} (hV : VRL X (gh0 p) w args us) :
    Calls X.P (X.fnOf f) us w fun e w' => e = .returned (.bool true) ∧ Kept w w' := by
  obtain ⟨c, hbody⟩ := Option.isSome_iff_exists.1 hbody0
  have h1 := cval_ok hX f args St0 _ S' h (gh0 p) w us (sr0 hp) hV (Oper.mk (some 0) (.move (.const undef)) 0 "" #[] none) { tmps := #[undef], defers := [] }
    (fun a w' => a.tmps.getD 0 undef = .bool true ∧ Kept w w') (fun _ _ _ => False) (fun u w' hst => by
      obtain ⟨g', hle, _, hr⟩ := hst
      cases hr
      exact ⟨rfl, kept_of_le hle⟩)
  rw [callFunc_code hfn hname hbody, Oper.upon_enter] at h1
  refine h1.mono fun e w' he => ?_
  cases e with
  | returned v => exact ⟨by rw [show v = .bool true from he.1], he.2⟩
  | panicked ch => exact absurd he id
  | outgrown => obtain ⟨a, w2, h2⟩ := he; exact absurd h2 id

end Ps

namespace Ps
open Go Go.ChangeShapes Go.WideShapes
variable {H : Type} {enc : TypeId × Value → H} {P : Program}

theorem post_of_kept {f : Func} {s : ChangeSpec} {apart fresh handsOn again : Bool} {W W' : World} {args : Array Value} {v : Value} {ds gs : List (DataW H)} {before pa pv : List MemPlace}
    (hW : DataW.Whole enc P f.params.toList s.vars apart W args.toList ds gs before)
    (hres : ∀ (b : Nat) (sp : Nat → Bool) (hd : Bool), DataW.TrodAll enc P W' b sp hd f.resultTypes.toList (v.resultList f.resultTypes.size) (s.fn H (ds ++ gs)).results [])
    (hargs : ∀ sp : Nat → Bool, (∀ p ∈ before, sp p.block = true) → DataW.TrodAll enc P W' 0 sp true f.params.toList args.toList (s.fn H (ds ++ gs)).args pa)
    (hvars : ∀ sp : Nat → Bool, (∀ p ∈ before, sp p.block = true) → DataW.TrodVars enc P W' sp s.vars (s.fn H (ds ++ gs)).vars pv)
    (hps : before = pa ++ pv) (hk : Kept W W')
    (hok : ∀ (j : Nat) (t : TypeId) (r : Value), f.resultTypes[j]? = some t → (v.resultList f.resultTypes.size)[j]? = some r → Value.okWide P W' .any 0 t r) :
    s.post enc P f apart fresh handsOn again W args v W' := by
  have hlt := hW.lt
  have hold : ∀ p ∈ before, (fun b => decide (b < W.heap.size)) p.block = true := fun p hp => by simpa using hlt p hp
  have hkb : W.keptBut W' (· ∈ before) := by
    refine ⟨hk.1, hk.2.1, fun i hi => ?_⟩
    rw [hk.2.2.2 i hi]
    cases h : W.heap[i]? with
    | none => rfl
    | some o => cases o <;> first | exact ⟨rfl, rfl, rfl, fun _ _ => rfl⟩ | exact .inr ⟨rfl, rfl⟩ | rfl
  refine ⟨ds, gs, before, [], pa, pv, hW, hres _ _ _, hargs _ hold, hvars _ hold, World.keptBut_mono (fun p hp => ⟨hp, ?_⟩) hkb, fun _ => ?_⟩
  · rw [hps, List.mem_append] at hp
    exact Or.inr hp
  · obtain ⟨_, _, _, _, _, hz, hn⟩ := hW
    refine ⟨hok, _, _, ([] ++ pa) ++ pv, ⟨[] ++ pa, pv, trodAll_append (hargs _ (fun _ _ => rfl)) (hres _ _ _), hvars _ (fun _ _ => rfl), rfl, ?_, ?_⟩, ?_⟩
    · intro b off hp
      have hb := hlt (.cell b off) (by rw [hps]; simpa using hp)
      have : W'.frozen? ⟨b, off, none⟩ = W.frozen? ⟨b, off, none⟩ := by
        simp only [World.frozen?]
        rw [hk.2.2.2 b (by simpa [MemPlace.block] using hb)]
      rw [this]
      exact hz b off (by rw [hps]; simpa using hp)
    · intro ha
      have := hn ha
      rw [hps] at this
      simpa using this
    · intro p hp _
      rw [hps]
      simpa using hp

end Ps
