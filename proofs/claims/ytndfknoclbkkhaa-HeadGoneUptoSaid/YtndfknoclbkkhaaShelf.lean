/- Shelf. -/
import Derived.Test.YtndfknoclbkkhaaGlue
import Derived.Shelf.Strings.OnBuilder
import Derived.Shelf.Strings.Builder1
import Derived.Shelf.Strings.Builder2
import Derived.Shelf.Small.Bits
import Derived.Shelf.Strings.BuilderF
import Derived.Shelf.Strings.BuilderK
import Derived.Shelf.Strings.Builder2Cap
import Derived.Shelf.Strconv.Itoa0
import Derived.Shelf.Strings.BuilderCap
import Derived.Test.YtndfknoclbkkhaaProg
namespace Ps
open Go Go.RowKit

section
variable {X : Tie} {g : Gh} {w w' : World} {S : St}

theorem runs_of_calls {f : FuncId} {fn : Func} (hfn : X.P.funcs[f]? = some fn) (hname : fn.name ≠ "runtime.NumGoroutine") (hbody0 : fn.body.isSome = true) {us : Array Value} {K : Value → World → Prop}
    (h : Calls X.P f us w fun e w' => ∃ v, e = .returned v ∧ K v w') : CallRuns X f us w K := by
  obtain ⟨c, hbody⟩ := Option.isSome_iff_exists.1 hbody0
  intro o a next Q hn
  rw [callFunc_code hfn hname hbody, Oper.upon_enter]
  refine h.mono fun e w' he => ?_
  obtain ⟨v, rfl, hk⟩ := he
  exact hn v w' hk

theorem strsOf_some : ∀ {l : List PV} {xs : List (List UInt8)}, strsOf l = some xs → l = xs.map .str
  | [], xs, h => by cases h; rfl
  | v :: l, xs, h => by
    cases v <;> simp only [strsOf] at h <;> try (cases h; done)
    split at h
    · rename_i r hr
      cases h
      rw [strsOf_some hr]; rfl
    · cases h

theorem flat_strs : ∀ l : List (List UInt8), (l.map PV.str).flatMap PV.cells = l.map PV.str
  | [] => rfl
  | s :: l => by rw [List.map_cons, List.flatMap_cons, flat_strs l]; rfl

theorem lib_join (sep : List UInt8) : ∀ xs : List (List UInt8), Lib.join xs sep = joinB sep xs
  | [] => rfl
  | [x] => Lib.join_one x sep
  | x :: y :: r => by
    have ih := lib_join sep (y :: r)
    simp only [joinB]
    rw [← ih]
    simp [Lib.join]

theorem us_two {a b : PV} {us : Array Value} (hV : VRL X g w [a, b] us) : ∃ x y, us = #[x, y] ∧ VR X g w a x ∧ VR X g w b y := by
  have h2 : us.size = 2 := hV.1.symm
  refine ⟨us[0], us[1], ?_, hV.2 0 a us[0] rfl (Array.getElem?_eq_getElem (by omega)), hV.2 1 b us[1] rfl (Array.getElem?_eq_getElem (by omega))⟩
  apply Array.ext
  · simp [h2]
  · intro i hi1 hi2
    simp at hi2
    match i with
    | 0 => rfl
    | 1 => rfl
    | i + 2 => omega

theorem joinExt {f : Nat} {fn : Func} (hfn : X.P.funcs[X.fnOf f]? = some fn) (hname : fn.name ≠ "runtime.NumGoroutine") (hbody : fn.body.isSome = true)
    (hnone : ∀ (a : Option Addr) (c : Nat) (sep : ByteArray) (w : World), Calls X.P (X.fnOf f) #[.slice a 0 c, .string sep] w fun e w' => e = .returned (.string ⟨#[]⟩) ∧ w' = w)
    (hjoin : ∀ (bk o c : Nat) (xs : List ByteArray) (sep : ByteArray) (w : World), (∀ (j : Nat) x, xs[j]? = some x → w.cell? ⟨bk, o + j, none⟩ = some (.string x)) → bk < w.heap.size → xs.length ≤ 140737488355328 → xs.length ≤ c →
      (Lib.join (xs.map (·.data.toList)) sep.data.toList).length ≤ 140737488355328 →
      Calls X.P (X.fnOf f) #[.slice (some ⟨bk, o, none⟩) xs.length c, .string sep] w fun e w' => e = .returned (.string ⟨(Lib.join (xs.map (·.data.toList)) sep.data.toList).toArray⟩) ∧ Below w.heap.size w w') :
    ExtOk X f joinP := by
  intro args r h g w S us hS hV
  unfold joinP at h
  split at h
  · rename_i sep
    cases h
    obtain ⟨x, y, rfl, hx, hy⟩ := us_two hV
    cases hx; cases hy
    refine runs_of_calls hfn hname hbody ((hnone none 0 _ w).mono fun e w' he => ⟨_, he.1, ?_⟩)
    rw [he.2]
    exact ⟨g, Le.refl g w, hS, .str []⟩
  · rename_i tip es sp sep
    obtain ⟨x, y, rfl, hx, hy⟩ := us_two hV
    split at h
    · rename_i xs hxs
      split at h
      · rename_i hlen
        cases h
        have hes := strsOf_some hxs
        generalize hq : PV.sl tip es sp = q at hx
        cases hx <;> try (cases hq; done)
        rotate_left
        · rename_i aa
          injection hq with q1 q2 q3
          subst q1; subst q2; subst q3
          cases hy
          simp only [strsOf, Option.some.injEq] at hxs
          subst hxs
          refine runs_of_calls hfn hname hbody ((hnone (some aa) 0 _ w).mono fun e w' he => ⟨_, he.1, ?_⟩)
          rw [he.2]
          exact ⟨g, Le.refl g w, hS, .str []⟩
        rename_i tip' es' sp' b o cap sz vs hcap hpos hsz hpub hc hv hlink hone
        injection hq with q1 q2 q3
        subst q1; subst q2; subst q3
        cases hy
        cases xs with
        | nil =>
          subst hes
          refine runs_of_calls hfn hname hbody ((hnone _ cap _ w).mono fun e w' he => ⟨_, he.1, ?_⟩)
          rw [he.2]
          exact ⟨g, Le.refl g w, hS, .str []⟩
        | cons x0 xr =>
          have hz : sz = 1 := by
            have := hsz (.str x0) (by rw [hes]; simp)
            simpa [PV.cells] using this.symm
          subst hz
          have hel : es.length = (x0 :: xr).length := by rw [hes]; simp
          let bs : List ByteArray := (x0 :: xr).map fun s => ⟨s.toArray⟩
          have hbl : bs.length = es.length := by rw [hel]; simp [bs]
          have hbm : bs.map (·.data.toList) = x0 :: xr := by simp [bs, Function.comp_def]
          have hcells : ∀ (j : Nat) x, bs[j]? = some x → w.cell? ⟨b, o + j, none⟩ = some (.string x) := by
            intro j x hj
            have hjl : j < bs.length := (List.getElem?_eq_some_iff.1 hj).1
            have hx' : ∃ s, (x0 :: xr)[j]? = some s ∧ x = ⟨s.toArray⟩ := by
              simp only [bs, List.getElem?_map, Option.map_eq_some_iff] at hj
              obtain ⟨s, h1, h2⟩ := hj
              exact ⟨s, h1, h2.symm⟩
            obtain ⟨s, hs1, rfl⟩ := hx'
            have hcell := hc j (by omega)
            have hflat : (((es ++ sp).flatMap PV.cells)[j]? : Option PV) = some (.str s) := by
              rw [List.flatMap_append]
              have e1 : es.flatMap PV.cells = es := by
                rw [hes]; exact flat_strs _
              rw [e1, List.getElem?_append_left (by omega), hes, List.getElem?_map, hs1]; rfl
            have hvr := hv j _ hflat
            generalize hu : vs j = u at hvr
            cases hvr
            rw [hcell, hu]
          have hb : b < w.heap.size := by
            have hcell := hcells 0 ⟨x0.toArray⟩ (by simp [bs])
            simp only [World.cell?] at hcell
            split at hcell
            · rename_i h1; exact (Array.getElem?_eq_some_iff.1 h1).1
            · cases hcell
          have hj := hjoin b o cap bs ⟨sep.toArray⟩ w hcells hb (by rw [hbl, hel]; exact hlen.1) (by rw [hbl]; omega) (by rw [hbm, lib_join]; simpa using hlen.2)
          rw [hbl, hbm, lib_join] at hj
          refine runs_of_calls hfn hname hbody (hj.mono fun e w' he => ⟨_, he.1, g, le_below hS he.2, sr_below hS he.2, ?_⟩)
          have : (ByteArray.mk sep.toArray).data.toList = sep := by simp
          rw [this]
          exact .str _
      · cases h
    · cases h
  · cases h

end
end Ps
namespace Go.Proofs
open Go.Shelf
def Try.lays156_ren : Go.Shelf.Ren := ⟨fun | 156 => 63 | 165 => 85 | 166 => 86 | 169 => 87 | 240 => 94 | 241 => 95 | 276 => 97 | 277 => 98 | n => n, fun | 31 => 101 | 9 => 9 | 3 => 3 | 4 => 4 | 0 => 0 | 20 => 20 | 72 => 125 | 76 => 129 | 70 => 123 | 37 => 122 | 75 => 128 | 127 => 138 | 164 => 142 | 5 => 5 | 80 => 131 | n => n, fun | n => n⟩
theorem Try.lays156 : Go.Proofs.Lays.n156 Try.prog Try.lays156_ren := {
  mixed := by kernel_rfl
  f156 := Try.func63.trans (congrArg some (by kernel_rfl))
  f165 := Try.func85.trans (congrArg some (by kernel_rfl))
  f166 := Try.func86.trans (congrArg some (by kernel_rfl))
  f169 := Try.func87.trans (congrArg some (by kernel_rfl))
  f240 := Try.func94.trans (congrArg some (by kernel_rfl))
  f241 := Try.func95.trans (congrArg some (by kernel_rfl))
  f276 := Try.func97.trans (congrArg some (by kernel_rfl))
  f277 := Try.func98.trans (congrArg some (by kernel_rfl))
  t0 := Try.underlying0
  a0 := Try.isAgg0
  z0 := Try.sizeOf0
  v0 := Try.zeroValue0
  t3 := Try.underlying3
  a3 := Try.isAgg3
  z3 := Try.sizeOf3
  v3 := Try.zeroValue3
  t4 := Try.underlying4
  a4 := Try.isAgg4
  z4 := Try.sizeOf4
  v4 := Try.zeroValue4
  t9 := Try.underlying9
  a9 := Try.isAgg9
  z9 := Try.sizeOf9
  v9 := Try.zeroValue9
  t20 := Try.underlying20
  a20 := Try.isAgg20
  z20 := Try.sizeOf20
  v20 := Try.zeroValue20
  t31 := Try.underlying101
  a31 := Try.isAgg101
  z31 := Try.sizeOf101
  v31 := Try.zeroValue101
  t37 := Try.underlying122
  a37 := Try.isAgg122
  z37 := Try.sizeOf122
  v37 := Try.zeroValue122
  t70 := Try.underlying123
  a70 := Try.isAgg123
  z70 := Try.sizeOf123
  v70 := Try.zeroValue123
  t72 := Try.underlying125
  a72 := Try.isAgg125
  z72 := Try.sizeOf125
  v72 := Try.zeroValue125
  t75 := Try.underlying128
  a75 := Try.isAgg128
  z75 := Try.sizeOf128
  v75 := Try.zeroValue128
  t76 := Try.underlying129
  a76 := Try.isAgg129
  z76 := Try.sizeOf129
  v76 := Try.zeroValue129
  t127 := Try.underlying138
  a127 := Try.isAgg138
  z127 := Try.sizeOf138
  v127 := Try.zeroValue138
  t164 := Try.underlying142
  a164 := Try.isAgg142
  z164 := Try.sizeOf142
  v164 := Try.zeroValue142 }
theorem Try.Builder_Extra_156 : Builder.Extra Try.prog Try.lays156_ren := {
  sizeBuilder := by kernel_rfl
  liesBuilder := by kernel_rfl
  t5 := Try.underlying5
  a5 := Try.isAgg5
  z5 := Try.sizeOf5
  v5 := Try.zeroValue5
  infoByte := by kernel_rfl
  cellsByte := by kernel_rfl
  sizeByte := by kernel_rfl
  neB5 := by decide }
open Go.RowKit in
theorem Try.strings_Join_none (a : Option Addr) (c : Nat) (sep : ByteArray) (w : World) :
    Calls Try.prog 63 #[.slice a 0 c, .string sep] w fun e w' => e = .returned (.string ⟨#[]⟩) ∧ w' = w := Any.strings_Join_none Try.lays156 Try.Builder_Extra_156 a c sep w
open Go.RowKit in
theorem Try.strings_Join (bk o c : Nat) (xs : List ByteArray) (sep : ByteArray) (w : World) (hcells : ∀ (j : Nat) x, xs[j]? = some x → w.cell? ⟨bk, o + j, none⟩ = some (.string x)) (hbk : bk < w.heap.size) (hN : xs.length ≤ 140737488355328) (hcap : xs.length ≤ c) (hlen : (Lib.join (xs.map (·.data.toList)) sep.data.toList).length ≤ 140737488355328) :
    Calls Try.prog 63 #[.slice (some ⟨bk, o, none⟩) xs.length c, .string sep] w fun e w' => e = .returned (.string ⟨(Lib.join (xs.map (·.data.toList)) sep.data.toList).toArray⟩) ∧ Below w.heap.size w w' := Any.strings_Join Try.lays156 Try.Builder_Extra_156 bk o c xs sep w hcells hbk hN hcap hlen
end Go.Proofs
