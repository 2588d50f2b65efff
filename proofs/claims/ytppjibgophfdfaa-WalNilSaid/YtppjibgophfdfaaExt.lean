/- A library's function that is given by what it answers: strings.Join. -/
import Derived.Test.YtppjibgophfdfaaGlue
import Derived.Shelf.Strings.OnBuilder
namespace Ps
open Go Go.RowKit

section
variable {X : Tie} {g : Gh} {w w' : World} {S : St}

theorem runs_of_calls {f : FuncId} {fn : Func} (hfn : X.P.funcs[f]? = some fn) (hname : fn.name ≠ "runtime.NumGoroutine") (hbody0 : fn.body.isSome = true) {us : Array Value} {K : Value → World → Prop}
    (h : Calls X.P f us w fun e w' => ∃ v, e = .returned v ∧ K v w') : CallRuns X f us w K := by
  obtain ⟨c, hbody⟩ := Option.isSome_iff_exists.1 hbody0
  intro o a next Q hn
  rw [callFunc_code hfn hname hbody, Oper.upon_enter]
  refine h.mono fun e w' he => ?_
  obtain ⟨v, rfl, hk⟩ := he
  exact hn v w' hk

theorem strsOf_some : ∀ {l : List PV} {xs : List (List UInt8)}, strsOf l = some xs → l = xs.map .str
  | [], xs, h => by cases h; rfl
  | v :: l, xs, h => by
    cases v <;> simp only [strsOf] at h <;> try (cases h; done)
    split at h
    · rename_i r hr
      cases h
      rw [strsOf_some hr]; rfl
    · cases h

theorem flat_strs : ∀ l : List (List UInt8), (l.map PV.str).flatMap PV.cells = l.map PV.str
  | [] => rfl
  | s :: l => by rw [List.map_cons, List.flatMap_cons, flat_strs l]; rfl

theorem lib_join (sep : List UInt8) : ∀ xs : List (List UInt8), Lib.join xs sep = joinB sep xs
  | [] => rfl
  | [x] => Lib.join_one x sep
  | x :: y :: r => by
    have ih := lib_join sep (y :: r)
    simp only [joinB]
    rw [← ih]
    simp [Lib.join]

theorem us_two {a b : PV} {us : Array Value} (hV : VRL X g w [a, b] us) : ∃ x y, us = #[x, y] ∧ VR X g w a x ∧ VR X g w b y := by
  have h2 : us.size = 2 := hV.1.symm
  refine ⟨us[0], us[1], ?_, hV.2 0 a us[0] rfl (Array.getElem?_eq_getElem (by omega)), hV.2 1 b us[1] rfl (Array.getElem?_eq_getElem (by omega))⟩
  apply Array.ext
  · simp [h2]
  · intro i hi1 hi2
    simp at hi2
    match i with
    | 0 => rfl
    | 1 => rfl
    | i + 2 => omega

theorem joinExt {f : Nat} {fn : Func} (hfn : X.P.funcs[X.fnOf f]? = some fn) (hname : fn.name ≠ "runtime.NumGoroutine") (hbody : fn.body.isSome = true)
    (hnone : ∀ (a : Option Addr) (c : Nat) (sep : ByteArray) (w : World), Calls X.P (X.fnOf f) #[.slice a 0 c, .string sep] w fun e w' => e = .returned (.string ⟨#[]⟩) ∧ w' = w)
    (hjoin : ∀ (bk o c : Nat) (xs : List ByteArray) (sep : ByteArray) (w : World), (∀ (j : Nat) x, xs[j]? = some x → w.cell? ⟨bk, o + j, none⟩ = some (.string x)) → bk < w.heap.size → xs.length ≤ 140737488355328 → xs.length ≤ c →
      (Lib.join (xs.map (·.data.toList)) sep.data.toList).length ≤ 140737488355328 →
      Calls X.P (X.fnOf f) #[.slice (some ⟨bk, o, none⟩) xs.length c, .string sep] w fun e w' => e = .returned (.string ⟨(Lib.join (xs.map (·.data.toList)) sep.data.toList).toArray⟩) ∧ Below w.heap.size w w') :
    ExtOk X f joinP := by
  intro args r h g w S us hS hV
  unfold joinP at h
  split at h
  · rename_i sep
    cases h
    obtain ⟨x, y, rfl, hx, hy⟩ := us_two hV
    cases hx; cases hy
    refine runs_of_calls hfn hname hbody ((hnone none 0 _ w).mono fun e w' he => ⟨_, he.1, ?_⟩)
    rw [he.2]
    exact ⟨g, Le.refl g w, hS, .str []⟩
  · rename_i tip es sp sep
    obtain ⟨x, y, rfl, hx, hy⟩ := us_two hV
    split at h
    · rename_i xs hxs
      split at h
      · rename_i hlen
        cases h
        have hes := strsOf_some hxs
        generalize hq : PV.sl tip es sp = q at hx
        cases hx <;> try (cases hq; done)
        rotate_left
        · rename_i aa
          injection hq with q1 q2 q3
          subst q1; subst q2; subst q3
          cases hy
          simp only [strsOf, Option.some.injEq] at hxs
          subst hxs
          refine runs_of_calls hfn hname hbody ((hnone (some aa) 0 _ w).mono fun e w' he => ⟨_, he.1, ?_⟩)
          rw [he.2]
          exact ⟨g, Le.refl g w, hS, .str []⟩
        rename_i tip' es' sp' b o cap sz vs hcap hpos hsz hpub hc hv hlink hone
        injection hq with q1 q2 q3
        subst q1; subst q2; subst q3
        cases hy
        cases xs with
        | nil =>
          subst hes
          refine runs_of_calls hfn hname hbody ((hnone _ cap _ w).mono fun e w' he => ⟨_, he.1, ?_⟩)
          rw [he.2]
          exact ⟨g, Le.refl g w, hS, .str []⟩
        | cons x0 xr =>
          have hz : sz = 1 := by
            have := hsz (.str x0) (by rw [hes]; simp)
            simpa [PV.cells] using this.symm
          subst hz
          have hel : es.length = (x0 :: xr).length := by rw [hes]; simp
          let bs : List ByteArray := (x0 :: xr).map fun s => ⟨s.toArray⟩
          have hbl : bs.length = es.length := by rw [hel]; simp [bs]
          have hbm : bs.map (·.data.toList) = x0 :: xr := by simp [bs, Function.comp_def]
          have hcells : ∀ (j : Nat) x, bs[j]? = some x → w.cell? ⟨b, o + j, none⟩ = some (.string x) := by
            intro j x hj
            have hjl : j < bs.length := (List.getElem?_eq_some_iff.1 hj).1
            have hx' : ∃ s, (x0 :: xr)[j]? = some s ∧ x = ⟨s.toArray⟩ := by
              simp only [bs, List.getElem?_map, Option.map_eq_some_iff] at hj
              obtain ⟨s, h1, h2⟩ := hj
              exact ⟨s, h1, h2.symm⟩
            obtain ⟨s, hs1, rfl⟩ := hx'
            have hcell := hc j (by omega)
            have hflat : (((es ++ sp).flatMap PV.cells)[j]? : Option PV) = some (.str s) := by
              rw [List.flatMap_append]
              have e1 : es.flatMap PV.cells = es := by
                rw [hes]; exact flat_strs _
              rw [e1, List.getElem?_append_left (by omega), hes, List.getElem?_map, hs1]; rfl
            have hvr := hv j _ hflat
            generalize hu : vs j = u at hvr
            cases hvr
            rw [hcell, hu]
          have hb : b < w.heap.size := by
            have hcell := hcells 0 ⟨x0.toArray⟩ (by simp [bs])
            simp only [World.cell?] at hcell
            split at hcell
            · rename_i h1; exact (Array.getElem?_eq_some_iff.1 h1).1
            · cases hcell
          have hj := hjoin b o cap bs ⟨sep.toArray⟩ w hcells hb (by rw [hbl, hel]; exact hlen.1) (by rw [hbl]; omega) (by rw [hbm, lib_join]; simpa using hlen.2)
          rw [hbl, hbm, lib_join] at hj
          refine runs_of_calls hfn hname hbody (hj.mono fun e w' he => ⟨_, he.1, g, le_below hS he.2, sr_below hS he.2, ?_⟩)
          have : (ByteArray.mk sep.toArray).data.toList = sep := by simp
          rw [this]
          exact .str _
      · cases h
    · cases h
  · cases h

end
end Ps
