/- Calls: the pure semantics is sound. -/
import Derived.Test.YtedmhhncckddmaaSimO
import GoSem.Extern.BytealgIndexByte
namespace Ps
open Go

def chkRes (X : Tie) : List ResultVar → List PRes → Bool
  | [], [] => true
  | .tmp t :: l, .tmp s :: m => t == s && chkRes X l m
  | .cell t ty :: l, .cell s ag n :: m => t == s && isAggT X.P ty ag n && chkRes X l m
  | _, _ => false

def chkFn (X : Tie) (fn : Func) (c : PCodeFn) : Bool :=
  (match fn.body with | some b => chkCode X (c.params + (fn.ntmps - c.params)) b c.body | none => false) && fn.name != "runtime.NumGoroutine" && chkRes X fn.results.toList c.results

def ExsOk (X : Tie) (f : Nat) (e : List PV → St → Option (PV × St)) : Prop :=
  ∀ (args : List PV) (S : St) (r : PV) (S' : St), e args S = some (r, S') → ∀ (g : Gh) (w : World) (us : Array Value), SR X g S w → VRL X g w args us → CallRuns X (X.fnOf f) us w (fun u w' => Step X g w S' r u w')

def ExtOk (X : Tie) (f : Nat) (e : List PV → Option PV) : Prop :=
  ∀ (args : List PV) (r : PV), e args = some r → ∀ (g : Gh) (w : World) (S : St) (us : Array Value), SR X g S w → VRL X g w args us → CallRuns X (X.fnOf f) us w (fun u w' => Step X g w S r u w')

def FnOk (X : Tie) (f : Nat) : PFn → Prop
  | .code c => ∃ fn, X.P.funcs[X.fnOf f]? = some fn ∧ chkFn X fn c = true
  | .indexByte => ∀ (us : Array Value) (w : World), (callFunc (X.fnOf f) us).run X.P w = ((Extern.BytealgIndexByte.indexByte us).run X.P w).andThen fun v w => .ok (.value v) w

  | .ext e => ExtOk X f e
  | .exs e => ExsOk X f e

structure TieOk (X : Tie) : Prop where
  ty : TyInj X
  meth : MethOk X
  mixed : X.P.follows .mixedOrders = true
  fns : ∀ f pf, X.T.fn f = some pf → FnOk X f pf

section
variable {X : Tie} {g : Gh} {w : World}

def resOne (tmps : Array Value) : ResultVar → Sem Value
  | .tmp t => pure (tmps.getD t undef)
  | .cell a t => do loadVar t (← asAddr (tmps.getD a undef))

theorem resOne_run {n : Nat} {fr : Fr} {a : Act} {S : St} (hS : SR X g S w) (hF : FR X n g w fr a) : ∀ {rs : List ResultVar} {ps : List PRes} {vs : List PV}, chkRes X rs ps = true → resAll fr S ps = some vs →
    ∃ us : List Value, (rs.mapM (resOne a.tmps)).run X.P w = .ok us w ∧ vs.length = us.length ∧ ∀ (j : Nat) (c : PV) (u : Value), vs[j]? = some c → us[j]? = some u → VR X g w c u
  | [], [], vs, _, h => by cases h; exact ⟨[], by simp, rfl, fun j c u e => by simp at e⟩
  | .tmp t :: rs, .tmp s :: ps, vs, hc, h => by
    simp only [chkRes, Bool.and_eq_true, beq_iff_eq] at hc
    obtain ⟨rfl, hc⟩ := hc
    simp only [resAll, resOf] at h
    cases hr : resAll fr S ps with
    | none => rw [hr] at h; cases h
    | some vs' =>
      rw [hr] at h; cases h
      obtain ⟨us, h1, h2, h3⟩ := resOne_run hS hF hc hr
      refine ⟨a.tmps.getD t undef :: us, by simp [resOne, h1], by simp [h2], fun j c u e1 e2 => ?_⟩
      cases j with
      | zero => simp only [List.getElem?_cons_zero, Option.some.injEq] at e1 e2; subst e1; subst e2; exact hF.at_ t
      | succ j => exact h3 j c u (by simpa using e1) (by simpa using e2)
  | .cell t ty :: rs, .cell s ag m :: ps, vs, hc, h => by
    simp only [chkRes, Bool.and_eq_true, beq_iff_eq] at hc
    obtain ⟨⟨rfl, hty⟩, hc⟩ := hc
    simp only [resAll] at h
    cases ho : resOf fr S (.cell t ag m) with
    | none => rw [ho] at h; cases h
    | some v =>
      rw [ho] at h
      cases hr : resAll fr S ps with
      | none => rw [hr] at h; cases h
      | some vs' =>
        rw [hr] at h; cases h
        obtain ⟨us, h1, h2, h3⟩ := resOne_run hS hF hc hr
        have r := hF.at_ t
        have hone : ∃ u, (resOne a.tmps (.cell t ty)).run X.P w = .ok u w ∧ VR X g w v u := by
          simp only [resOf] at ho
          split at ho
          · rename_i cs e
            rw [e] at r
            obtain ⟨b, o, k1, k2, k3⟩ := ref_cells r
            obtain ⟨u, q1, q2⟩ := load_run hty ho k2
            exact ⟨u, by simp only [resOne, k1, asAddr, Sem.run_bind, Sem.run_pure, Result.andThen_ok, q1], q2⟩
          · rename_i id off e
            rw [e] at r
            split at ho
            · rename_i cs hcs
              generalize hu : a.tmps.getD t undef = u at r
              cases r with
              | ptr _ _ b hb =>
                have hcc := (obj_cells hS hb hcs).drop off
                rw [Nat.zero_add] at hcc
                obtain ⟨u, q1, q2⟩ := load_run hty ho hcc
                exact ⟨u, by simp only [resOne, hu, asAddr, Sem.run_bind, Sem.run_pure, Result.andThen_ok, q1], q2⟩
            · cases ho
          · cases ho
        obtain ⟨u, k1, k2⟩ := hone
        refine ⟨u :: us, by simp [k1, h1], by simp [h2], fun j c x e1 e2 => ?_⟩
        cases j with
        | zero => simp only [List.getElem?_cons_zero, Option.some.injEq] at e1 e2; subst e1; subst e2; exact k2
        | succ j => exact h3 j c x (by simpa using e1) (by simpa using e2)
  | [], _ :: _, _, hc, _ => by simp [chkRes] at hc
  | .tmp _ :: _, [], _, hc, _ => by simp [chkRes] at hc
  | .cell _ _ :: _, [], _, hc, _ => by simp [chkRes] at hc
  | .tmp _ :: _, .cell _ _ _ :: _, _, hc, _ => by simp [chkRes] at hc
  | .cell _ _ :: _, .tmp _ :: _, _, hc, _ => by simp [chkRes] at hc

theorem results_run {n : Nat} {fr : Fr} {a : Act} {S : St} (hS : SR X g S w) (hF : FR X n g w fr a) {fn : Func} {ps : List PRes} {vs : List PV} (hc : chkRes X fn.results.toList ps = true) (h : resAll fr S ps = some vs) :
    ∃ u, (results fn a.tmps).run X.P w = .ok u w ∧ VR X g w (packed vs) u := by
  obtain ⟨us, h1, h2, h3⟩ := resOne_run hS hF hc h
  have hm : (fn.results.mapM (resOne a.tmps)).run X.P w = .ok us.toArray w := by
    rw [Array.mapM_eq_mapM_toList]
    simp [h1]
  have hr : (results fn a.tmps) = (do let vs ← fn.results.mapM (resOne a.tmps); pure (if h : vs.size = 1 then vs[0] else .tuple vs)) := by
    unfold results
    congr 1
  rw [hr]
  simp only [Sem.run_bind, hm, Result.andThen_ok, Sem.run_pure]
  refine ⟨_, rfl, ?_⟩
  match vs, us, h2, h3 with
  | [], [], _, _ => exact .tup [] #[] rfl (fun j c u e => by simp at e)
  | [v], [u], _, h3 => exact h3 0 v u rfl rfl
  | v :: v' :: vs, u :: u' :: us, h2, h3 =>
    simp only [packed]
    rw [dif_neg (by simp)]
    exact .tup _ _ (by simpa using h2) (fun j c x e1 e2 => h3 j c x e1 (by simpa using e2))

theorem callFunc_code {P : Program} {f : FuncId} {fn : Func} {us : Array Value} {w : World} (hf : P.funcs[f]? = some fn) (hn : fn.name ≠ "runtime.NumGoroutine") {c : Code} (hb : fn.body = some c) :
    (callFunc f us).run P w = .ok (.enter f us) w := by
  simp [callFunc, hf, hn, hb]

theorem pcall_ok (hX : TieOk X) : ∀ k, CallOk X (pcall X.T k) := by
  intro k
  induction k with
  | zero => intro f args S r S' h; simp [pcall] at h
  | succ k ih =>
    intro f args S r S' h g w us hS hV o a next Q hn
    simp only [pcall] at h
    cases hf : X.T.fn f with
    | none => rw [hf] at h; cases h
    | some pf =>
      rw [hf] at h
      have hfn := hX.fns f pf hf
      cases pf with
      | code c =>
        obtain ⟨fn, k1, k2⟩ := hfn
        simp only [chkFn, Bool.and_eq_true, bne_iff_ne, ne_eq] at k2
        obtain ⟨⟨kb, kn⟩, kr⟩ := k2
        simp only at h
        split at h
        · rename_i hargs
          split at kb
          · rename_i body hbody
            rw [callFunc_code k1 kn hbody, Oper.upon_enter]
            refine calls_of_wp k1 hbody ?_
            have hsz : us.size = c.params := by rw [← hV.1, hargs]
            have hF : FR X (c.params + (fn.ntmps - c.params)) g w (argsFr args) { tmps := us ++ Array.replicate (fn.ntmps - us.size) undef, defers := [] } := by
              refine ⟨by simp [hsz], fun t => ?_, rfl⟩
              simp only [argsFr]
              cases ht : args[t]? with
              | none => exact .und _
              | some v =>
                have hlt : t < us.size := by rw [← hV.1]; exact (List.getElem?_eq_some_iff.1 ht).1
                simp only [Option.getD_some, Array.getD_eq_getD_getElem?]
                rw [Array.getElem?_append_left hlt, Array.getElem?_eq_getElem hlt]
                exact hV.2 t v _ ht (Array.getElem?_eq_getElem hlt)
            have fin : ∀ (e : Ex) (fr' : Fr) (S1 : St) (vs : List PV), pcode X.T (pcall X.T k) k c.body (argsFr args) S = some (e, fr', S1) → (e = .norm ∨ e = .ret) → resAll fr' S1 c.results = some vs →
                finish c.raw S S1 (packed vs) = (r, S') → body.wp X.P (bodyPost X.P fn fun | .returned v, w'' => next (a.put o.dst v) w'' | .panicked chain, w'' => Q (.panic chain) a w'' | .outgrown, _ => LetsOut Q)
                  { tmps := us ++ Array.replicate (fn.ntmps - us.size) undef, defers := [] } w := by
              intro e fr' S1 vs hc he hr hfin
              refine (code_sim hX.ty hX.meth ih hX.mixed _ k).1 body c.body (argsFr args) S e fr' S1 g w _ _ kb hS hF hc (fun g1 w1 a1 hle hS1 hF1 => ?_)
              obtain ⟨u, q1, q2⟩ := results_run hS1 hF1 kr hr
              have hst := finish_sim (raw := c.raw) hS hle hS1 q2
              rw [hfin] at hst
              rcases he with rfl | rfl
              · exact ⟨hF1.defers, u, q1, hn u w1 hst⟩
              · exact ⟨hF1.defers, u, q1, hn u w1 hst⟩
            split at h
            · rename_i fr' S1 hc
              split at h
              · rename_i vs hr
                simp only [Option.some.injEq] at h
                exact fin _ fr' S1 vs hc (.inl rfl) hr h
              · cases h
            · rename_i fr' S1 hc
              split at h
              · rename_i vs hr
                simp only [Option.some.injEq] at h
                exact fin _ fr' S1 vs hc (.inr rfl) hr h
              · cases h
            · cases h
          · cases kb
        · cases h
      | indexByte =>
        simp only at h
        split at h
        · rename_i v hv
          cases h
          have hrun := hfn us w
          unfold indexByteP at hv
          split at hv
          · rename_i s c
            cases hv
            have hus : us = #[.string ⟨s.toArray⟩, .int .u8 c] := by
              have h2 : us.size = 2 := hV.1.symm
              have r0 := hV.2 0 (.str s) us[0] rfl (Array.getElem?_eq_getElem (by omega))
              have r1 := hV.2 1 (.int .u8 c) us[1] rfl (Array.getElem?_eq_getElem (by omega))
              generalize h0 : us[0] = u0 at r0
              generalize h1 : us[1] = u1 at r1
              cases r0; cases r1
              apply Array.ext
              · simp [h2]
              · intro i hi1 hi2
                simp at hi2
                match i with
                | 0 => exact h0
                | 1 => exact h1
                | i + 2 => omega
            subst hus
            rw [hrun]
            have hfind : ((List.range (ByteArray.mk s.toArray).size).find? fun i => (ByteArray.mk s.toArray)[i]! == c.toNat.toUInt8) = (List.range s.length).find? (fun i => (s.getD i 0) == UInt8.ofNat c.toNat) := by
              have e1 : (ByteArray.mk s.toArray).size = s.length := by simp [ByteArray.size]
              rw [e1]
              have : ∀ l : List Nat, (∀ i ∈ l, i < s.length) → (l.find? fun i => (ByteArray.mk s.toArray)[i]! == c.toNat.toUInt8) = l.find? (fun i => (s.getD i 0) == UInt8.ofNat c.toNat) := by
                intro l
                induction l with
                | nil => intro _; rfl
                | cons i l ih =>
                  intro hl
                  have hi := hl i (by simp)
                  have e : (ByteArray.mk s.toArray)[i]! = s.getD i 0 := by
                    rw [getElem!_pos _ i (by rw [e1]; exact hi)]
                    simp [ByteArray.getElem_eq_getElem_data, List.getD_eq_getElem?_getD, hi]
                  simp only [List.find?_cons, e, ih (fun j hj => hl j (by simp [hj]))]
              exact this _ (fun i hi => List.mem_range.1 hi)
            have hib : Extern.BytealgIndexByte.indexByte #[.string (ByteArray.mk s.toArray), .int .u8 c] =
                (match (List.range (ByteArray.mk s.toArray).size).find? fun i => (ByteArray.mk s.toArray)[i]! == c.toNat.toUInt8 with | some i => pure (goInt i) | none => pure (goInt (-1))) := rfl
            rw [hib, hfind]
            split
            · rename_i i hi
              simp only [Sem.run_pure, Result.andThen_ok]
              exact hn _ w ⟨g, Le.refl g w, hS, by rw [hi]; exact .int _ _⟩
            · rename_i hi
              simp only [Sem.run_pure, Result.andThen_ok]
              exact hn _ w ⟨g, Le.refl g w, hS, by rw [hi]; exact .int _ _⟩
          · cases hv
        · cases h

      | ext e =>
        simp only at h
        split at h
        · rename_i v hv
          cases h
          exact hfn args r hv g w S us hS hV o a next Q hn
        · cases h

      | exs e =>
        simp only at h
        exact hfn args S r S' h g w us hS hV o a next Q hn

end
end Ps
