/- Shelf. -/
import Derived.Test.YtndfknoclbkkhaaSimP
import Derived.Test.YtndfknoclbkkhaaGo
import Derived.ChangeSame
import GoSem.Extern.Table
import Derived.Shelf.Strings.OnBuilder
import Derived.Shelf.Strings.Builder1
import Derived.Shelf.Strings.Builder2
import Derived.Shelf.Small.Bits
import Derived.Shelf.Strings.BuilderF
import Derived.Shelf.Strings.BuilderK
import Derived.Shelf.Strings.Builder2Cap
import Derived.Shelf.Strconv.Itoa0
import Derived.Shelf.Strings.BuilderCap
import Derived.Test.YtndfknoclbkkhaaProg
namespace Ps
open Go
def look {α : Type} : List (Nat × α) → Nat → Option α
  | [], _ => none
  | (k, v) :: l, n => if k = n then some v else look l n

def fnTab (l : List (Nat × Nat)) (d : Nat) (k : Nat) : Nat := (look l k).getD d
def tyTab (l : List (Nat × Nat)) (k : Nat) : Nat := match look l k with | some v => v | none => k + 1000000
def mnTab (l : List (Nat × String)) (k : Nat) : String := (look l k).getD "-"
def methTab : List (Nat × Nat × Nat) → Nat → Nat → Option Nat
  | [], _, _ => none
  | (t, m, f) :: l, a, b => if t = a ∧ m = b then some f else methTab l a b

def valsOk : List (Nat × Nat) → Bool
  | [] => true
  | (_, v) :: l => decide (v < 1000000) && l.all (fun q => q.2 != v) && valsOk l

theorem look_mem {α : Type} : ∀ {l : List (Nat × α)} {k : Nat} {v : α}, look l k = some v → (k, v) ∈ l
  | [], _, _, h => by cases h
  | (a, b) :: l, k, v, h => by
    simp only [look] at h
    split at h
    · rename_i e; cases h; subst e; simp
    · exact List.mem_cons_of_mem _ (look_mem h)

theorem valsOk_lt : ∀ {l : List (Nat × Nat)}, valsOk l = true → ∀ q ∈ l, q.2 < 1000000
  | [], _, q, hq => by simp at hq
  | (a, b) :: l, h, q, hq => by
    simp only [valsOk, Bool.and_eq_true, decide_eq_true_eq] at h
    rcases List.mem_cons.1 hq with rfl | hq
    · exact h.1.1
    · exact valsOk_lt h.2 q hq

theorem look_inj : ∀ {l : List (Nat × Nat)}, valsOk l = true → ∀ {a b v : Nat}, look l a = some v → look l b = some v → a = b
  | [], _, a, b, v, h, _ => by cases h
  | (k, x) :: l, h, a, b, v, ha, hb => by
    simp only [valsOk, Bool.and_eq_true, decide_eq_true_eq, List.all_eq_true, bne_iff_ne, ne_eq] at h
    simp only [look] at ha hb
    split at ha
    · rename_i e
      cases ha
      split at hb
      · rename_i e2; omega
      · exact absurd rfl (h.1.2 (b, x) (look_mem hb))
    · split at hb
      · cases hb
        exact absurd rfl (h.1.2 (a, x) (look_mem ha))
      · exact look_inj h.2 ha hb

theorem tyTab_inj {l : List (Nat × Nat)} (h : valsOk l = true) (a b : Nat) (e : tyTab l a = tyTab l b) : a = b := by
  unfold tyTab at e
  cases ha : look l a with
  | none =>
    cases hb : look l b with
    | none => rw [ha, hb] at e; simp only at e; omega
    | some v =>
      rw [ha, hb] at e; simp only at e
      have := valsOk_lt h _ (look_mem hb)
      simp only at this; omega
  | some u =>
    have hu := valsOk_lt h _ (look_mem ha)
    cases hb : look l b with
    | none => rw [ha, hb] at e; simp only at e hu; omega
    | some v =>
      rw [ha, hb] at e; simp only at e; subst e
      exact look_inj h ha hb

def chkMeth (P : Program) (t : TypeId) (m : String) (f : FuncId) : Bool :=
  match P.info? t with
  | some i => (match i.methods.find? (·.name == m) with
    | some r => r.path.isEmpty && (match r.func with
      | some (g, b) => g == f && (match P.underlying t with | some (.pointer _) => b | some _ => !b | none => false)
      | none => false)
    | none => false)
  | none => false

theorem chkMeth_ok {P : Program} {t : TypeId} {m : String} {f : FuncId} (h : chkMeth P t m f = true) (n : Nat) (u : Value) (w : World) : (Go.method (n + 1) t u m).run P w = .ok (f, u) w := by
  unfold chkMeth at h
  split at h
  · rename_i i hi
    split at h
    · rename_i r hr
      simp only [Bool.and_eq_true] at h
      obtain ⟨hp, h⟩ := h
      split at h
      · rename_i gf b hf
        simp only [Bool.and_eq_true, beq_iff_eq] at h
        obtain ⟨rfl, h⟩ := h
        have hpath : r.path.toList = [] := by
          rw [Array.isEmpty_iff] at hp
          rw [hp]
        split at h
        · rename_i e hu
          subst h
          simp [Go.method, typeInfo, hi, hr, hpath, Go.follow, hf, receiverAt, run_underlying hu, Place.get]
        · rename_i d hne hu
          have hb : b = false := by simpa using h
          subst hb
          simp only [Go.method, typeInfo, Sem.run_bind]
          simp [hi, hr, hpath, Go.follow, hf, receiverAt, run_underlying hu]
          cases d <;> first | rfl | (simp [Place.get]; done) | exact absurd rfl (hne _)
        · cases h
      · cases h
    · cases h
  · cases h

theorem methTab_ok {P : Program} {ty : Nat → TypeId} {mn : Nat → String} {fnOf : Nat → FuncId} : ∀ {l : List (Nat × Nat × Nat)}, l.all (fun q => chkMeth P (ty q.1) (mn q.2.1) (fnOf q.2.2)) = true →
    ∀ (t m f : Nat), methTab l t m = some f → chkMeth P (ty t) (mn m) (fnOf f) = true
  | [], _, _, _, _, h => by cases h
  | (a, b, c) :: l, h, t, m, f, e => by
    simp only [List.all_cons, Bool.and_eq_true] at h
    simp only [methTab] at e
    split at e
    · rename_i q; cases e; obtain ⟨rfl, rfl⟩ := q; exact h.1
    · exact methTab_ok h.2 t m f e

def Kept (w w' : World) : Prop := w'.os = w.os ∧ w'.output = w.output ∧ w.heap.size ≤ w'.heap.size ∧ ∀ b, b < w.heap.size → w'.heap[b]? = w.heap[b]?

theorem kept_of_le {p : Nat → Nat} {g : Gh} {w w' : World} (h : Le (gh0 p) w g w') : Kept w w' :=
  ⟨h.os, h.output, h.size, fun b hb => h.keep b hb (fun id e => absurd e (by simp [gh0])) rfl (fun id e => absurd e (by simp [gh0]))⟩

theorem cval_ok {X : Tie} (hX : TieOk X) : CallOk X (cval X.T) := by
  intro f args S r S' h
  obtain ⟨k, hk⟩ := cval_some.1 h
  exact pcall_ok hX k f args S r S' hk

theorem calls_true {X : Tie} (hX : TieOk X) {f : Nat} {fn : Func} (hfn : X.P.funcs[X.fnOf f]? = some fn) (hname : fn.name ≠ "runtime.NumGoroutine") (hbody0 : fn.body.isSome = true)
    {args : List PV} {S' : St} (h : cval X.T f args St0 = some (.bool true, S')) {p : Nat → Nat} {w : World} (hp : ∀ b, w.heap.size ≤ b → p b = 0) {us : Array Value} (hV : VRL X (gh0 p) w args us) :
    Calls X.P (X.fnOf f) us w fun e w' => e = .returned (.bool true) ∧ Kept w w' := by
  obtain ⟨c, hbody⟩ := Option.isSome_iff_exists.1 hbody0
  have h1 := cval_ok hX f args St0 _ S' h (gh0 p) w us (sr0 hp) hV (Oper.mk (some 0) (.move (.const undef)) 0 "" #[] none) { tmps := #[undef], defers := [] }
    (fun a w' => a.tmps.getD 0 undef = .bool true ∧ Kept w w') (fun _ _ _ => False) (fun u w' hst => by
      obtain ⟨g', hle, _, hr⟩ := hst
      cases hr
      exact ⟨rfl, kept_of_le hle⟩)
  rw [callFunc_code hfn hname hbody, Oper.upon_enter] at h1
  refine h1.mono fun e w' he => ?_
  cases e with
  | returned v => exact ⟨by rw [show v = .bool true from he.1], he.2⟩
  | panicked ch => exact absurd he id
  | outgrown => obtain ⟨a, w2, h2⟩ := he; exact absurd h2 id

end Ps
namespace Ps
open Go Go.ChangeShapes Go.WideShapes
variable {H : Type} {enc : TypeId × Value → H} {P : Program}
theorem post_of_kept {f : Func} {s : ChangeSpec} {apart fresh handsOn again : Bool} {W W' : World} {args : Array Value} {v : Value} {ds gs : List (DataW H)} {before pa pv : List MemPlace}
    (hW : DataW.Whole enc P f.params.toList s.vars apart W args.toList ds gs before)
    (hres : ∀ (b : Nat) (sp : Nat → Bool) (hd : Bool), DataW.TrodAll enc P W' b sp hd f.resultTypes.toList (v.resultList f.resultTypes.size) (s.fn H (ds ++ gs)).results [])
    (hargs : ∀ sp : Nat → Bool, (∀ p ∈ before, sp p.block = true) → DataW.TrodAll enc P W' 0 sp true f.params.toList args.toList (s.fn H (ds ++ gs)).args pa)
    (hvars : ∀ sp : Nat → Bool, (∀ p ∈ before, sp p.block = true) → DataW.TrodVars enc P W' sp s.vars (s.fn H (ds ++ gs)).vars pv)
    (hps : before = pa ++ pv) (hk : Kept W W')
    (hok : ∀ (j : Nat) (t : TypeId) (r : Value), f.resultTypes[j]? = some t → (v.resultList f.resultTypes.size)[j]? = some r → Value.okWide P W' .any 0 t r) :
    s.post enc P f apart fresh handsOn again W args v W' := by
  have hlt := hW.lt
  have hold : ∀ p ∈ before, (fun b => decide (b < W.heap.size)) p.block = true := fun p hp => by simpa using hlt p hp
  have hkb : W.keptBut W' (· ∈ before) := by
    refine ⟨hk.1, hk.2.1, fun i hi => ?_⟩
    rw [hk.2.2.2 i hi]
    cases h : W.heap[i]? with
    | none => rfl
    | some o => cases o <;> first | exact ⟨rfl, rfl, rfl, fun _ _ => rfl⟩ | exact .inr ⟨rfl, rfl⟩ | rfl
  refine ⟨ds, gs, before, [], pa, pv, hW, hres _ _ _, hargs _ hold, hvars _ hold, World.keptBut_mono (fun p hp => ⟨hp, ?_⟩) hkb, fun _ => ?_⟩
  · rw [hps, List.mem_append] at hp
    exact Or.inr hp
  · obtain ⟨_, _, _, _, _, hz, hn⟩ := hW
    refine ⟨hok, _, _, ([] ++ pa) ++ pv, ⟨[] ++ pa, pv, trodAll_append (hargs _ (fun _ _ => rfl)) (hres _ _ _), hvars _ (fun _ _ => rfl), rfl, ?_, ?_⟩, ?_⟩
    · intro b off hp
      have hb := hlt (.cell b off) (by rw [hps]; simpa using hp)
      have : W'.frozen? ⟨b, off, none⟩ = W.frozen? ⟨b, off, none⟩ := by
        simp only [World.frozen?]
        rw [hk.2.2.2 b (by simpa [MemPlace.block] using hb)]
      rw [this]
      exact hz b off (by rw [hps]; simpa using hp)
    · intro ha
      have := hn ha
      rw [hps] at this
      simpa using this
    · intro p hp _
      rw [hps]
      simpa using hp
end Ps
namespace Ps
open Go Go.RowKit
section
variable {X : Tie} {g : Gh} {w w' : World} {S : St}
theorem runs_of_calls {f : FuncId} {fn : Func} (hfn : X.P.funcs[f]? = some fn) (hname : fn.name ≠ "runtime.NumGoroutine") (hbody0 : fn.body.isSome = true) {us : Array Value} {K : Value → World → Prop}
    (h : Calls X.P f us w fun e w' => ∃ v, e = .returned v ∧ K v w') : CallRuns X f us w K := by
  obtain ⟨c, hbody⟩ := Option.isSome_iff_exists.1 hbody0
  intro o a next Q hn
  rw [callFunc_code hfn hname hbody, Oper.upon_enter]
  refine h.mono fun e w' he => ?_
  obtain ⟨v, rfl, hk⟩ := he
  exact hn v w' hk

theorem strsOf_some : ∀ {l : List PV} {xs : List (List UInt8)}, strsOf l = some xs → l = xs.map .str
  | [], xs, h => by cases h; rfl
  | v :: l, xs, h => by
    cases v <;> simp only [strsOf] at h <;> try (cases h; done)
    split at h
    · rename_i r hr
      cases h
      rw [strsOf_some hr]; rfl
    · cases h

theorem flat_strs : ∀ l : List (List UInt8), (l.map PV.str).flatMap PV.cells = l.map PV.str
  | [] => rfl
  | s :: l => by rw [List.map_cons, List.flatMap_cons, flat_strs l]; rfl

theorem lib_join (sep : List UInt8) : ∀ xs : List (List UInt8), Lib.join xs sep = joinB sep xs
  | [] => rfl
  | [x] => Lib.join_one x sep
  | x :: y :: r => by
    have ih := lib_join sep (y :: r)
    simp only [joinB]
    rw [← ih]
    simp [Lib.join]

theorem us_two {a b : PV} {us : Array Value} (hV : VRL X g w [a, b] us) : ∃ x y, us = #[x, y] ∧ VR X g w a x ∧ VR X g w b y := by
  have h2 : us.size = 2 := hV.1.symm
  refine ⟨us[0], us[1], ?_, hV.2 0 a us[0] rfl (Array.getElem?_eq_getElem (by omega)), hV.2 1 b us[1] rfl (Array.getElem?_eq_getElem (by omega))⟩
  apply Array.ext
  · simp [h2]
  · intro i hi1 hi2
    simp at hi2
    match i with
    | 0 => rfl
    | 1 => rfl
    | i + 2 => omega

theorem joinExt {f : Nat} {fn : Func} (hfn : X.P.funcs[X.fnOf f]? = some fn) (hname : fn.name ≠ "runtime.NumGoroutine") (hbody : fn.body.isSome = true)
    (hnone : ∀ (a : Option Addr) (c : Nat) (sep : ByteArray) (w : World), Calls X.P (X.fnOf f) #[.slice a 0 c, .string sep] w fun e w' => e = .returned (.string ⟨#[]⟩) ∧ w' = w)
    (hjoin : ∀ (bk o c : Nat) (xs : List ByteArray) (sep : ByteArray) (w : World), (∀ (j : Nat) x, xs[j]? = some x → w.cell? ⟨bk, o + j, none⟩ = some (.string x)) → bk < w.heap.size → xs.length ≤ 140737488355328 → xs.length ≤ c →
      (Lib.join (xs.map (·.data.toList)) sep.data.toList).length ≤ 140737488355328 →
      Calls X.P (X.fnOf f) #[.slice (some ⟨bk, o, none⟩) xs.length c, .string sep] w fun e w' => e = .returned (.string ⟨(Lib.join (xs.map (·.data.toList)) sep.data.toList).toArray⟩) ∧ Below w.heap.size w w') :
    ExtOk X f joinP := by
  intro args r h g w S us hS hV
  unfold joinP at h
  split at h
  · rename_i sep
    cases h
    obtain ⟨x, y, rfl, hx, hy⟩ := us_two hV
    cases hx; cases hy
    refine runs_of_calls hfn hname hbody ((hnone none 0 _ w).mono fun e w' he => ⟨_, he.1, ?_⟩)
    rw [he.2]
    exact ⟨g, Le.refl g w, hS, .str []⟩
  · rename_i tip es sp sep
    obtain ⟨x, y, rfl, hx, hy⟩ := us_two hV
    split at h
    · rename_i xs hxs
      split at h
      · rename_i hlen
        cases h
        have hes := strsOf_some hxs
        generalize hq : PV.sl tip es sp = q at hx
        cases hx <;> try (cases hq; done)
        rotate_left
        · rename_i aa
          injection hq with q1 q2 q3
          subst q1; subst q2; subst q3
          cases hy
          simp only [strsOf, Option.some.injEq] at hxs
          subst hxs
          refine runs_of_calls hfn hname hbody ((hnone (some aa) 0 _ w).mono fun e w' he => ⟨_, he.1, ?_⟩)
          rw [he.2]
          exact ⟨g, Le.refl g w, hS, .str []⟩
        rename_i tip' es' sp' b o cap sz vs hcap hpos hsz hpub hc hv hlink hone
        injection hq with q1 q2 q3
        subst q1; subst q2; subst q3
        cases hy
        cases xs with
        | nil =>
          subst hes
          refine runs_of_calls hfn hname hbody ((hnone _ cap _ w).mono fun e w' he => ⟨_, he.1, ?_⟩)
          rw [he.2]
          exact ⟨g, Le.refl g w, hS, .str []⟩
        | cons x0 xr =>
          have hz : sz = 1 := by
            have := hsz (.str x0) (by rw [hes]; simp)
            simpa [PV.cells] using this.symm
          subst hz
          have hel : es.length = (x0 :: xr).length := by rw [hes]; simp
          let bs : List ByteArray := (x0 :: xr).map fun s => ⟨s.toArray⟩
          have hbl : bs.length = es.length := by rw [hel]; simp [bs]
          have hbm : bs.map (·.data.toList) = x0 :: xr := by simp [bs, Function.comp_def]
          have hcells : ∀ (j : Nat) x, bs[j]? = some x → w.cell? ⟨b, o + j, none⟩ = some (.string x) := by
            intro j x hj
            have hjl : j < bs.length := (List.getElem?_eq_some_iff.1 hj).1
            have hx' : ∃ s, (x0 :: xr)[j]? = some s ∧ x = ⟨s.toArray⟩ := by
              simp only [bs, List.getElem?_map, Option.map_eq_some_iff] at hj
              obtain ⟨s, h1, h2⟩ := hj
              exact ⟨s, h1, h2.symm⟩
            obtain ⟨s, hs1, rfl⟩ := hx'
            have hcell := hc j (by omega)
            have hflat : (((es ++ sp).flatMap PV.cells)[j]? : Option PV) = some (.str s) := by
              rw [List.flatMap_append]
              have e1 : es.flatMap PV.cells = es := by
                rw [hes]; exact flat_strs _
              rw [e1, List.getElem?_append_left (by omega), hes, List.getElem?_map, hs1]; rfl
            have hvr := hv j _ hflat
            generalize hu : vs j = u at hvr
            cases hvr
            rw [hcell, hu]
          have hb : b < w.heap.size := by
            have hcell := hcells 0 ⟨x0.toArray⟩ (by simp [bs])
            simp only [World.cell?] at hcell
            split at hcell
            · rename_i h1; exact (Array.getElem?_eq_some_iff.1 h1).1
            · cases hcell
          have hj := hjoin b o cap bs ⟨sep.toArray⟩ w hcells hb (by rw [hbl, hel]; exact hlen.1) (by rw [hbl]; omega) (by rw [hbm, lib_join]; simpa using hlen.2)
          rw [hbl, hbm, lib_join] at hj
          refine runs_of_calls hfn hname hbody (hj.mono fun e w' he => ⟨_, he.1, g, le_below hS he.2, sr_below hS he.2, ?_⟩)
          have : (ByteArray.mk sep.toArray).data.toList = sep := by simp
          rw [this]
          exact .str _
      · cases h
    · cases h
  · cases h

end
end Ps
namespace Go.Proofs
open Go.Shelf
def Try.lays156_ren : Go.Shelf.Ren := ⟨fun | 156 => 63 | 165 => 85 | 166 => 86 | 169 => 87 | 240 => 94 | 241 => 95 | 276 => 97 | 277 => 98 | n => n, fun | 31 => 101 | 9 => 9 | 3 => 3 | 4 => 4 | 0 => 0 | 20 => 20 | 72 => 125 | 76 => 129 | 70 => 123 | 37 => 122 | 75 => 128 | 127 => 138 | 164 => 142 | 5 => 5 | 80 => 131 | n => n, fun | n => n⟩
theorem Try.lays156 : Go.Proofs.Lays.n156 Try.prog Try.lays156_ren := {
  mixed := by kernel_rfl
  f156 := Try.func63.trans (congrArg some (by kernel_rfl))
  f165 := Try.func85.trans (congrArg some (by kernel_rfl))
  f166 := Try.func86.trans (congrArg some (by kernel_rfl))
  f169 := Try.func87.trans (congrArg some (by kernel_rfl))
  f240 := Try.func94.trans (congrArg some (by kernel_rfl))
  f241 := Try.func95.trans (congrArg some (by kernel_rfl))
  f276 := Try.func97.trans (congrArg some (by kernel_rfl))
  f277 := Try.func98.trans (congrArg some (by kernel_rfl))
  t0 := Try.underlying0
  a0 := Try.isAgg0
  z0 := Try.sizeOf0
  v0 := Try.zeroValue0
  t3 := Try.underlying3
  a3 := Try.isAgg3
  z3 := Try.sizeOf3
  v3 := Try.zeroValue3
  t4 := Try.underlying4
  a4 := Try.isAgg4
  z4 := Try.sizeOf4
  v4 := Try.zeroValue4
  t9 := Try.underlying9
  a9 := Try.isAgg9
  z9 := Try.sizeOf9
  v9 := Try.zeroValue9
  t20 := Try.underlying20
  a20 := Try.isAgg20
  z20 := Try.sizeOf20
  v20 := Try.zeroValue20
  t31 := Try.underlying101
  a31 := Try.isAgg101
  z31 := Try.sizeOf101
  v31 := Try.zeroValue101
  t37 := Try.underlying122
  a37 := Try.isAgg122
  z37 := Try.sizeOf122
  v37 := Try.zeroValue122
  t70 := Try.underlying123
  a70 := Try.isAgg123
  z70 := Try.sizeOf123
  v70 := Try.zeroValue123
  t72 := Try.underlying125
  a72 := Try.isAgg125
  z72 := Try.sizeOf125
  v72 := Try.zeroValue125
  t75 := Try.underlying128
  a75 := Try.isAgg128
  z75 := Try.sizeOf128
  v75 := Try.zeroValue128
  t76 := Try.underlying129
  a76 := Try.isAgg129
  z76 := Try.sizeOf129
  v76 := Try.zeroValue129
  t127 := Try.underlying138
  a127 := Try.isAgg138
  z127 := Try.sizeOf138
  v127 := Try.zeroValue138
  t164 := Try.underlying142
  a164 := Try.isAgg142
  z164 := Try.sizeOf142
  v164 := Try.zeroValue142 }
theorem Try.Builder_Extra_156 : Builder.Extra Try.prog Try.lays156_ren := {
  sizeBuilder := by kernel_rfl
  liesBuilder := by kernel_rfl
  t5 := Try.underlying5
  a5 := Try.isAgg5
  z5 := Try.sizeOf5
  v5 := Try.zeroValue5
  infoByte := by kernel_rfl
  cellsByte := by kernel_rfl
  sizeByte := by kernel_rfl
  neB5 := by decide }
open Go.RowKit in
theorem Try.strings_Join_none (a : Option Addr) (c : Nat) (sep : ByteArray) (w : World) :
    Calls Try.prog 63 #[.slice a 0 c, .string sep] w fun e w' => e = .returned (.string ⟨#[]⟩) ∧ w' = w := Any.strings_Join_none Try.lays156 Try.Builder_Extra_156 a c sep w
open Go.RowKit in
theorem Try.strings_Join (bk o c : Nat) (xs : List ByteArray) (sep : ByteArray) (w : World) (hcells : ∀ (j : Nat) x, xs[j]? = some x → w.cell? ⟨bk, o + j, none⟩ = some (.string x)) (hbk : bk < w.heap.size) (hN : xs.length ≤ 140737488355328) (hcap : xs.length ≤ c) (hlen : (Lib.join (xs.map (·.data.toList)) sep.data.toList).length ≤ 140737488355328) :
    Calls Try.prog 63 #[.slice (some ⟨bk, o, none⟩) xs.length c, .string sep] w fun e w' => e = .returned (.string ⟨(Lib.join (xs.map (·.data.toList)) sep.data.toList).toArray⟩) ∧ Below w.heap.size w w' := Any.strings_Join Try.lays156 Try.Builder_Extra_156 bk o c xs sep w hcells hbk hN hcap hlen
end Go.Proofs
