/- Bytes to a string; and all that only computes, together. -/
import Derived.Test.YtndfknoclbkkhaaSimF
namespace Ps
open Go
section
variable {X : Tie} {g : Gh} {w : World} {n : Dn} {fr : Fr} {a : Act}
theorem toStr_does (hF : FR X n g w fr a) {x : Opd} {x' : Operand} {s d : TypeId}
    (hs : (match X.P.underlying s with | some (.slice e) => isIntT X.P e .u8 && (match X.P.info? e with | some i => i.size == 1 | none => false) | _ => false) = true)
    (hd : isStrT X.P d = true) (hx : chkOpd X x' x = true) {v : PV} (hv : peval fr (.toStr x) = some v) : Does X g w a (.convert s d x') v := by
  intro dst ty pos after guard
  have r := opd_sim hF hx
  split at hs
  · rename_i e he
    simp only [Bool.and_eq_true] at hs
    have hu8 := intT_spec hs.1
    simp only [peval] at hv
    split at hv
    · rename_i e1
      rw [e1] at r
      cases hv
      generalize hu1 : a.eval x' = u1 at r
      cases r
      refine ⟨.string .empty, ?_, .str _⟩
      simp [execOp, hu1, convert, run_underlying he, run_underlying (strT_spec hd), run_underlying hu8, Conv.bytesToString]
    · rename_i e1
      rw [e1] at r
      cases hv
      generalize hu1 : a.eval x' = u1 at r
      cases r with
      | emp aa =>
      refine ⟨.string .empty, ?_, .str _⟩
      have hcells : (loadCells aa 0).run X.P w = .ok (([] : List Int).map (Value.int .u8)).toArray w := by simp [loadCells, loadCellsFrom]
      have hbs := run_bytesToString (P := X.P) w aa 0 0 [] hcells
      simp only [execOp, Sem.run_bind, hu1, run_convert_bytes_string w s d e _ _ _ he hu8 (strT_spec hd), hbs, Result.andThen_ok]
      rw [foldl_push_bytes]
      simp <;> rfl
    · rename_i tip es sp e1
      rw [e1] at r
      split at hv
      · rename_i str hb
        cases hv
        obtain ⟨h1, h2, ns, h3, h4⟩ := bytesOf_spec hb
        generalize hu1 : a.eval x' = u1 at r
        cases r with
        | slz aa =>
          refine ⟨.string ⟨str.toArray⟩, ?_, .str _⟩
          have hns : ns = [] := by simpa using h3.symm
          subst hns
          have hcells : (loadCells aa 0).run X.P w = .ok (([] : List Int).map (Value.int .u8)).toArray w := by simp [loadCells, loadCellsFrom]
          have hbs := run_bytesToString (P := X.P) w aa 0 0 [] hcells
          simp only [execOp, Sem.run_bind, hu1, run_convert_bytes_string w s d e _ _ _ he hu8 (strT_spec hd), hbs, Result.andThen_ok]
          rw [foldl_push_bytes, ← h4]
          simp
        | sl _ _ _ b o cap sz' us hcap hpos hszs hpub hc hvs hlink =>
          refine ⟨.string ⟨str.toArray⟩, ?_, .str _⟩
          have hcells : (loadCells ⟨b, o, none⟩ es.length).run X.P w = .ok (ns.map (Value.int .u8)).toArray w := by
            have hlen : es.length = ns.length := by rw [h3]; simp
            cases hes : es with
            | nil =>
              have : ns = [] := by rw [hes] at h3; simpa using h3.symm
              subst this
              simp [loadCells, loadCellsFrom]
            | cons y ys =>
              have hsz1 : sz' = 1 := by
                have hy : y ∈ es ++ sp := by rw [hes]; simp
                have hy2 : y ∈ es := by rw [hes]; simp
                rw [← hszs y hy, h2 y hy2]; rfl
              subst hsz1
              rw [← hes, hlen]
              have := run_loadCells_list (P := X.P) w ⟨b, o, none⟩ (ns.map (Value.int .u8)) (fun j v hj => by
                have hjl : j < ns.length := by
                  have := (List.getElem?_eq_some_iff.1 hj).1
                  simpa using this
                have hv : v = .int .u8 ns[j] := by
                  simp [hjl] at hj
                  exact hj.symm
                have hel : es[j]? = some (.int .u8 ns[j]) := by rw [h3]; simp [hjl]
                have hf := flat_get hszs (i := j) (e := .int .u8 ns[j]) (by rw [List.getElem?_append_left (by omega)]; exact hel) 0 (by omega)
                rw [Nat.mul_one, Nat.add_zero] at hf
                have hcell := hc j (by rw [Nat.mul_one]; omega)
                have hr := hvs j (.int .u8 ns[j]) (by rw [hf]; rfl)
                rw [add_plain, hcell, hv]
                generalize us j = q at hr
                cases hr
                rfl)
              simpa using this
          have hbs := run_bytesToString (P := X.P) w ⟨b, o, none⟩ es.length cap ns hcells
          simp only [execOp, Sem.run_bind, hu1, run_convert_bytes_string w s d e _ _ _ he hu8 (strT_spec hd), hbs, Result.andThen_ok]
          rw [foldl_push_bytes, ← h4]
          simp
      · cases hv
    · cases hv
  · cases hs

theorem toStrO_does {S : St} (hS : SR X g S w) (hF : FR X n g w fr a) {x : Opd} {x' : Operand} {s d : TypeId} {id off len sz : Nat} {cs : List PV} {str : List UInt8}
    (hs : (match X.P.underlying s with | some (.slice e) => isIntT X.P e .u8 && (match X.P.info? e with | some i => i.size == 1 | none => false) | _ => false) = true)
    (hd : isStrT X.P d = true) (hx : chkOpd X x' x = true) (he1 : ev fr x = .osl id off len sz) (hcs : S.objs[id]? = some cs) (hoff : off + len ≤ cs.length) (hb : bytesOf ((cs.drop off).take len) = some str) :
    Does X g w a (.convert s d x') (.str str) := by
  intro dst ty pos after guard
  have r := opd_sim hF hx
  rw [he1] at r
  split at hs
  · rename_i e he
    simp only [Bool.and_eq_true] at hs
    have hu8 := intT_spec hs.1
    obtain ⟨h1, h2, ns, h3, h4⟩ := bytesOf_spec hb
    generalize hu1 : a.eval x' = u1 at r
    cases r with
    | osl _ _ _ _ cap b hid hl hr =>
      refine ⟨.string ⟨str.toArray⟩, ?_, .str _⟩
      obtain ⟨us, hus⟩ := (obj_cells hS hid hcs).drop off
      rw [Nat.zero_add] at hus
      have hnl : ns.length = len := by
        have := congrArg List.length h3
        simp at this; omega
      have hcells : (loadCells ⟨b, off, none⟩ len).run X.P w = .ok (ns.map (Value.int .u8)).toArray w := by
        have := run_loadCells_list (P := X.P) w ⟨b, off, none⟩ (ns.map (Value.int .u8)) (fun j v hj => by
          have hjl : j < ns.length := by
            have := (List.getElem?_eq_some_iff.1 hj).1
            simpa using this
          have hv : v = .int .u8 ns[j] := by
            simp [hjl] at hj
            exact hj.symm
          have hel : ((cs.drop off).take len)[j]? = some (.int .u8 ns[j]) := by rw [h3]; simp [hjl]
          rw [List.getElem?_take_of_lt (by omega)] at hel
          obtain ⟨k1, k2⟩ := hus j _ hel
          rw [add_plain, k1, hv]
          generalize us j = q at k2
          cases k2
          rfl)
        rw [List.length_map, hnl] at this
        exact this
      have hbs := run_bytesToString (P := X.P) w ⟨b, off, none⟩ len cap ns hcells
      simp only [execOp, Sem.run_bind, hu1, run_convert_bytes_string w s d e _ _ _ he hu8 (strT_spec hd), hbs, Result.andThen_ok]
      rw [foldl_push_bytes, ← h4]
      simp
  · cases hs

theorem pure_sim (hty : TyInj X) (hF : FR X n g w fr a) {op : Go.Op} {p : POp} (hc : chkOp X op p = true) (hp : pure0 p = true) {v : PV} (hv : peval fr p = some v) : Does X g w a op v := by
  cases p <;> simp only [pure0] at hp <;> try (cases hp; done)
  case mov y => simp only [peval, Option.some.injEq] at hv; subst hv; exact mov_does hF hc
  case pick c x y =>
    cases op <;> simp only [chkOp] at hc <;> try (cases hc; done)
    simp only [Bool.and_eq_true] at hc
    exact pick_does hF hc.1.1 hc.1.2 hc.2 hv
  case nilck x =>
    cases op <;> simp only [chkOp] at hc <;> try (cases hc; done)
    exact nilck_does hF hc hv
  case arith o x y =>
    cases op <;> simp only [chkOp] at hc <;> try (cases hc; done)
    simp only [Bool.and_eq_true, beq_iff_eq] at hc
    obtain ⟨⟨rfl, h1⟩, h2⟩ := hc
    exact arith_does hF h1 h2 hv
  case eqb neg x y =>
    cases op <;> simp only [chkOp] at hc <;> try (cases hc; done)
    simp only [Bool.and_eq_true, beq_iff_eq] at hc
    obtain ⟨⟨⟨rfl, h0⟩, h1⟩, h2⟩ := hc
    exact eqb_does hF h0 h1 h2 hv
  case eqn neg k x =>
    cases op <;> simp only [chkOp] at hc <;> try (cases hc; done)
    simp only [Bool.and_eq_true, beq_iff_eq] at hc
    obtain ⟨⟨rfl, h0⟩, h1⟩ := hc
    exact eqn_does hF h0 h1 hv
  case eqa neg isb m x y =>
    cases op <;> simp only [chkOp] at hc <;> try (cases hc; done)
    simp only [Bool.and_eq_true, beq_iff_eq] at hc
    obtain ⟨⟨⟨rfl, h0⟩, h1⟩, h2⟩ := hc
    exact eqa_does hF h0 h1 h2 hv
  case eqs neg m x y =>
    cases op <;> simp only [chkOp] at hc <;> try (cases hc; done)
    simp only [Bool.and_eq_true, beq_iff_eq] at hc
    obtain ⟨⟨⟨rfl, h0⟩, h1⟩, h2⟩ := hc
    exact eqs_does hF h0 h1 h2 hv
  case un o x =>
    cases op <;> simp only [chkOp] at hc <;> try (cases hc; done)
    simp only [Bool.and_eq_true, beq_iff_eq] at hc
    obtain ⟨rfl, h1⟩ := hc
    exact un_does hF h1 hv
  case toInt k x =>
    cases op <;> simp only [chkOp] at hc <;> try (cases hc; done)
    simp only [Bool.and_eq_true] at hc
    exact toInt_does hF hc.1.1 hc.1.2 hc.2 hv
  case strId x =>
    cases op <;> simp only [chkOp] at hc <;> try (cases hc; done)
    simp only [Bool.and_eq_true] at hc
    exact strId_does hF hc.1.1 hc.1.2 hc.2 hv
  case toStr x =>
    cases op <;> simp only [chkOp] at hc <;> try (cases hc; done)
    rw [Bool.and_eq_true, Bool.and_eq_true] at hc
    exact toStr_does hF hc.1.1 hc.1.2 hc.2 hv
  case field ag off m x =>
    cases op <;> simp only [chkOp] at hc <;> try (cases hc; done)
    rw [Bool.and_eq_true] at hc
    exact field_does hF hc.1 hc.2 hv
  case build z parts =>
    cases op <;> simp only [chkOp] at hc <;> try (cases hc; done)
    rw [Bool.and_eq_true] at hc
    exact build_does hF hc.1 hc.2 hv
  case mkif t x =>
    cases op <;> simp only [chkOp] at hc <;> try (cases hc; done)
    simp only [Bool.and_eq_true, beq_iff_eq] at hc
    obtain ⟨⟨rfl, h1⟩, h2⟩ := hc
    simp only [peval, Option.some.injEq] at hv; subst hv
    exact mkif_does hF h1 h2
  case mkfn f caps =>
    cases op <;> simp only [chkOp] at hc <;> try (cases hc; done)
    split at hc
    · rename_i heq
      cases heq
      simp only [Bool.and_eq_true, beq_iff_eq] at hc
      obtain ⟨⟨rfl, h1⟩, h2⟩ := hc
      simp only [peval, Option.some.injEq] at hv; subst hv
      exact mkfn_does hF h1 h2
    · cases hc
  case mkbfn f first =>
    cases op <;> simp only [chkOp] at hc <;> try (cases hc; done)
    split at hc
    · rename_i heq
      cases heq
      simp only [Bool.and_eq_true, beq_iff_eq] at hc
      obtain ⟨⟨rfl, h1⟩, h2⟩ := hc
      simp only [peval, Option.some.injEq] at hv; subst hv
      exact mkbfn_does hF h1 h2
    · cases hc
  case extract i x =>
    cases op <;> simp only [chkOp] at hc <;> try (cases hc; done)
    simp only [Bool.and_eq_true, beq_iff_eq] at hc
    obtain ⟨rfl, h1⟩ := hc
    exact extract_does hF h1 hv
  case emp3 x =>
    cases op <;> simp only [chkOp] at hc <;> try (cases hc; done)
    split at hc
    · rename_i heq
      cases heq
      rw [Bool.and_eq_true] at hc
      exact emp3_does hF hc.1 hc.2 hv
    · cases hc
  case assert t ok z x =>
    cases op <;> simp only [chkOp] at hc <;> try (cases hc; done)
    simp only [Bool.and_eq_true, beq_iff_eq] at hc
    obtain ⟨⟨⟨⟨rfl, rfl⟩, h1⟩, h2⟩, h3⟩ := hc
    exact assert_does hty hF h1 h2 h3 hv
  case idxs x i =>
    cases op <;> simp only [chkOp] at hc <;> try (cases hc; done)
    simp only [Bool.and_eq_true] at hc
    exact idxs_does hF hc.1.1 hc.1.2 hc.2 hv
  case idxa len m ag x i =>
    cases op <;> simp only [chkOp] at hc <;> try (cases hc; done)
    rw [Bool.and_eq_true, Bool.and_eq_true] at hc
    exact idxa_does hF hc.1.1 hc.1.2 hc.2 hv
  case slcs lo hi x =>
    cases op <;> simp only [chkOp] at hc <;> try (cases hc; done)
    split at hc
    · rename_i heq
      cases heq
      simp only [Bool.and_eq_true] at hc
      exact slcs_does hF hc.1.1.1 hc.1.1.2 hc.1.2 hc.2 hv
    · cases hc
  case slc sz lo hi x =>
    cases op <;> simp only [chkOp] at hc <;> try (cases hc; done)
    split at hc
    · rename_i heq
      cases heq
      simp only [Bool.and_eq_true] at hc
      exact slc_does hF hc.1.1.1 hc.1.1.2 hc.1.2 hc.2 hv
    · cases hc
  case slca len sz lo hi x =>
    cases op <;> simp only [chkOp] at hc <;> try (cases hc; done)
    split at hc
    · rename_i heq
      cases heq
      simp only [Bool.and_eq_true] at hc
      exact slca_does hF hc.1.1.1 hc.1.1.2 hc.1.2 hc.2 hv
    · cases hc
  case faddr off x =>
    cases op <;> simp only [chkOp] at hc <;> try (cases hc; done)
    rw [Bool.and_eq_true] at hc
    exact faddr_does hF hc.1 hc.2 hv
  case iaddr sz x i =>
    cases op <;> simp only [chkOp] at hc <;> try (cases hc; done)
    simp only [Bool.and_eq_true] at hc
    exact iaddr_does hF hc.1.1 hc.1.2 hc.2 hv
  case iaddra len sz x i =>
    cases op <;> simp only [chkOp] at hc <;> try (cases hc; done)
    simp only [Bool.and_eq_true] at hc
    exact iaddra_does hF hc.1.1 hc.1.2 hc.2 hv
  case len st x =>
    cases op <;> simp only [chkOp] at hc <;> try (cases hc; done)
    split at hc
    · rename_i h1 h2 h3
      rw [Bool.and_eq_true] at hc
      exact len_does hF h1 h2 h3 hc.1 hc.2 hv
    · cases hc
  case mnmx mx x y =>
    cases op <;> simp only [chkOp] at hc <;> try (cases hc; done)
    split at hc
    · rename_i h1 h2
      simp only [Bool.and_eq_true] at hc
      obtain ⟨⟨rfl, h3⟩, h4⟩ := hc
      exact mnmx_does hF h1 h2 h3 h4 hv
    · rename_i h1 h2
      simp only [Bool.and_eq_true, Bool.not_eq_true'] at hc
      obtain ⟨⟨rfl, h3⟩, h4⟩ := hc
      exact mnmx_does hF h1 h2 h3 h4 hv
    · cases hc
  case load ag m mix x =>
    subst hp
    cases op <;> simp only [chkOp] at hc <;> try (cases hc; done)
    simp only [Bool.and_eq_true] at hc
    simp only [peval] at hv
    split at hv
    · rename_i cs he
      exact loadref_does hF hc.1 hc.2 he hv
    · cases hv

end
end Ps
