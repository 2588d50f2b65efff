/- A library's function that is given by what it answers: maps.Clone; slices.Sorted over maps.Keys. -/
import Derived.Test.YtedmhhncckddmaaExt
import Derived.Test.YtedmhhncckddmaaSimMp
import Derived.Sort.KeysCollected
import Derived.Shelf.SlMaps.Clone
namespace Ps
open Go Go.RowKit Go.Maps
open Go.Proofs (encStr)

def keysOf : List PV → Option (List (List UInt8))
  | [] => some []
  | .str k :: _ :: r => (match keysOf r with | some l => some (k :: l) | none => none)
  | _ => none

def cloneP : List PV → St → Option (PV × St)
  | [.map id], S => (match S.objs[id]? with
    | some cs => some (.map S.objs.length, { S with objs := S.objs ++ [cs] })
    | none => none)
  | _, _ => none

def sortedP (gk : Nat) : List PV → St → Option (PV × St)
  | [.fn f [.ptr i 0]], S => if f = gk then (match S.objs[i]? with
    | some [.map m] => (match S.objs[m]? with
      | some cs => (match keysOf cs with
        | some ks => if ks.length ≤ 1048576 ∧ ks.all (fun k => decide (k.length ≤ maxLen)) = true then
            some (if ks.isEmpty then .nils else .sl none ((ks.mergeSort leB).map .str) [], S) else none
        | none => none)
      | none => none)
    | _ => none) else none
  | _, _ => none

section
variable {X : Tie} {g : Gh} {w w' : World} {S : St}

theorem flat_cells : ∀ {l : List PV}, (∀ e ∈ l, e.cells = [e]) → l.flatMap PV.cells = l
  | [], _ => rfl
  | e :: l, h => by rw [List.flatMap_cons, h e (by simp), flat_cells (fun x hx => h x (by simp [hx]))]; rfl

theorem pub_below (hS : SR X g S w) (hb : Below w.heap.size w w') {b0 cap : Nat} {us : Array Value} {t : TypeId} {es : List PV} (hge : w.heap.size ≤ b0) (hblk : w'.heap[b0]? = some (.cells us t (0, 0)))
    (hone : ∀ e ∈ es, e.cells = [e] ∧ e.one = true) (hcap : es.length ≤ cap) (hv : ∀ (j : Nat) (c : PV), es[j]? = some c → ∃ u, us[j]? = some u ∧ VR X g w c u) :
    Step X g w S (.sl none es []) (.slice (some ⟨b0, 0, none⟩) es.length cap) w' := by
  have hle0 := le_below hS hb
  let g' : Gh := { g with pub := fun b => if b = b0 then es.length else g.pub b }
  have hp0 : g.pub b0 = 0 := (hS.lt b0 hge).1
  have hnlt : ∀ b, b < w.heap.size → b ≠ b0 := fun b h e => by omega
  have hle : Le g w g' w' := {
    os := hle0.os, tape := hle0.tape, output := hle0.output, size := hle0.size
    obj := fun _ _ h => h, arr := fun _ _ h => h, asz := fun _ _ h => h
    pub := fun b => by
      simp only [g']
      split
      · rename_i e; rw [e, hp0]; exact Nat.zero_le _
      · exact Nat.le_refl _
    cell := hle0.cell
    shape := hle0.shape
    objN := fun id _ h => .inl ⟨id, h⟩, arrN := fun _ _ h => .inl h
    keep := hle0.keep
    pubN := fun b hb _ _ _ => by simp only [g']; rw [if_neg (hnlt b hb)]
    mp := fun _ _ h => h, mpN := fun _ _ h => .inl h }
  have hS' := sr_below hS hb
  refine ⟨g', hle, ⟨fun i b h => ?_, hS.inj, fun i b h => ?_, fun b id base h => ?_, hS.asz, fun b hb' => ?_,
    hS.maps.of (fun _ _ h => h) (fun _ _ _ => rfl) (fun i b e => hb.block b (hS.maps.lt e)) (fun c u r => r.mono hle) (fun i b e => ⟨by simp only [g']; rw [if_neg (hnlt b (hS.maps.lt e))], rfl⟩) (fun _ _ _ _ h => h)⟩, ?_⟩
  · obtain ⟨cs', us', t', h1, h2, h3, h4⟩ := hS.obj i b h
    exact ⟨cs', us', t', h1, by rw [hb.block b (obj_lt hS i b h)]; exact h2, h3, fun j c u e1 e2 => (h4 j c u e1 e2).mono hle⟩
  · have := obj_lt hS i b h
    exact ⟨fun hl => by simp only [g']; rw [if_neg (hnlt b this)]; exact (hS.objpub i b h).1 hl, (hS.objpub i b h).2⟩
  · have hne : b ≠ b0 := fun e => by
      have := (hS.lt b (by omega)).2
      rw [show g.arr b = some (id, base) from h] at this; cases this
    obtain ⟨sz', tip, h1, h2, h3, h4⟩ := hS.arr b id base h
    exact ⟨sz', tip, h1, h2, h3, by simp only [g']; rw [if_neg hne]; exact h4⟩
  · have hlt0 : b0 < w'.heap.size := (Array.getElem?_eq_some_iff.1 hblk).1
    have := hS.lt b (Nat.le_trans hb.size hb')
    exact ⟨by simp only [g']; rw [if_neg (by omega)]; exact this.1, this.2⟩
  · have hflat : es.flatMap PV.cells = es := flat_cells (fun e he => (hone e he).1)
    refine .sl none es [] b0 0 cap 1 (fun j => us.getD j undef) (by simpa using hcap) (by decide) (fun e he => ?_) (by simp [g']) ?_ ?_ ?_ (fun e he => ?_)
    · rw [List.append_nil] at he; rw [(hone e he).1]; rfl
    · intro j hj
      simp only [List.length_nil, Nat.add_zero, Nat.mul_one] at hj
      obtain ⟨u, h1, _⟩ := hv j _ (List.getElem?_eq_getElem hj)
      have hj' : j < us.size := (Array.getElem?_eq_some_iff.1 h1).1
      simp [World.cell?, hblk, hj', Array.getD]
    · intro j c hc
      rw [List.append_nil, hflat] at hc
      obtain ⟨u, h1, h2⟩ := hv j c hc
      have : us.getD j undef = u := by simp [Array.getD_eq_getD_getElem?, h1]
      rw [this]
      exact h2.mono hle
    · intro i e' ht _
      cases ht
    · rw [List.append_nil] at he
      rw [(hone e he).1]
      simp [(hone e he).2]

theorem us_one {a : PV} {us : Array Value} (hV : VRL X g w [a] us) : ∃ x, us = #[x] ∧ VR X g w a x := by
  have h2 : us.size = 1 := hV.1.symm
  refine ⟨us[0], ?_, hV.2 0 a us[0] rfl (Array.getElem?_eq_getElem (by omega))⟩
  apply Array.ext
  · simp [h2]
  · intro i hi1 hi2
    simp at hi2
    match i with
    | 0 => rfl

theorem cloneExt {f : Nat} {fn : Func} (hfn : X.P.funcs[X.fnOf f]? = some fn) (hname : fn.name ≠ "runtime.NumGoroutine") (hbody : fn.body.isSome = true)
    (hclone : ∀ (b : Nat) (es : Array MapEntry) (clock : Nat) (w : World), w.heap[b]? = some (.map es clock) →
      Calls X.P (X.fnOf f) #[.map (some b)] w fun e w' => e = .returned (.map (some w.heap.size)) ∧ w' = w.alloc (.map es clock)) :
    ExsOk X f cloneP := by
  intro args S r S' h g w us hS hV
  unfold cloneP at h
  split at h
  · rename_i id
    split at h
    · rename_i cs hcs
      cases h
      obtain ⟨x, rfl, hx⟩ := us_one hV
      cases hx
      rename_i b hb
      obtain ⟨cs', es, clock, h1, h2, h3, h4⟩ := hS.maps.ent id b hb
      rw [hcs] at h1; cases h1
      refine runs_of_calls hfn hname hbody ((hclone b es clock w h2).mono fun e w' he => ⟨_, he.1, ?_⟩)
      rw [he.2]
      exact mkm_step hS h3 h4
    · cases h
  · cases h

theorem keysOf_mr {cs : List PV} {es : List MapEntry} (h : MR X g w cs es) : ∀ ks, keysOf cs = some ks → es.map (·.key) = ks.map encStr := by
  induction h with
  | nil => intro ks h; cases h; rfl
  | cons k v cs e es kk hk hkk hv _ ih =>
    intro ks h
    cases k <;> simp only [keysOf] at h <;> try (cases h; done)
    rename_i s
    split at h
    · rename_i l hl
      cases h
      cases e with
      | mk key val born =>
        simp only at hk
        cases hk
        rw [List.map_cons, List.map_cons, ih l hl]
    · cases h

def unitR : Value → Option (DataW Unit × List MemPlace) := fun _ => some (.nil, [])

theorem rd_unit {P : Program} {k : TypeId} (hk : P.underlying k = some .string) {e : MapEntry} {s : List UInt8} (he : e.key = encStr s) (hs : s.length ≤ maxLen) : WideElems.rd P k unitR e = some (.string s, .nil) := by
  have hz : (ByteArray.mk s.toArray).size = s.length := by simp [ByteArray.size]
  simp [WideElems.rd, he, encStr, keyOf, hk, mapKey, hs, unitR, hz]

theorem own_keys {P : Program} {k : TypeId} (hk : P.underlying k = some .string) {w : World} {b : Nat} {es : Array MapEntry} {clock : Nat} (hb : w.heap[b]? = some (.map es clock)) (hst : MapKept.Stamped es clock)
    {ks : List (List UInt8)} (hks : es.toList.map (·.key) = ks.map encStr) (hlen : ks.length ≤ 1048576) (hall : ∀ s ∈ ks, s.length ≤ maxLen) :
    ∃ D : DataW Unit, w.ownsMap P k unitR b es.size D ∧ Maps.size D = ks.length ∧ (strKeys D).Perm ks := by
  have hsz : es.size = ks.length := by
    have := congrArg List.length hks
    simpa using this
  have hmem : ∀ x ∈ es.toList, ∃ s ∈ ks, x.key = encStr s := by
    intro x hx
    have : x.key ∈ es.toList.map (·.key) := List.mem_map.2 ⟨x, hx, rfl⟩
    rw [hks] at this
    obtain ⟨s, h1, h2⟩ := List.mem_map.1 this
    exact ⟨s, h1, h2.symm⟩
  have hrg : es.toList.map (WideElems.rg P k unitR) = ks.map fun s => ((.string s : Lit), (.nil : DataW Unit)) := by
    have : ∀ (l : List MapEntry) (ks : List (List UInt8)), l.map (·.key) = ks.map encStr → (∀ s ∈ ks, s.length ≤ maxLen) → l.map (WideElems.rg P k unitR) = ks.map fun s => ((.string s : Lit), (.nil : DataW Unit)) := by
      intro l
      induction l with
      | nil => intro ks h _; cases ks with
        | nil => rfl
        | cons => simp at h
      | cons x l ih =>
        intro ks h ha
        cases ks with
        | nil => simp at h
        | cons s ks =>
          simp only [List.map_cons, List.cons.injEq] at h
          rw [List.map_cons, List.map_cons, ih ks h.2 (fun s hs => ha s (by simp [hs]))]
          rw [WideElems.rg_of (rd_unit hk h.1 (ha s (by simp)))]
    exact this _ _ hks hall
  refine ⟨_, ⟨es, clock, hb, ⟨?_, hst, fun x hx => ?_⟩, Nat.le_refl _, rfl⟩, ?_, ?_⟩
  · rw [hsz]; exact Nat.le_trans hlen (by decide)
  · obtain ⟨s, h1, h2⟩ := hmem x hx
    exact ⟨_, rd_unit hk h2 (hall s h1)⟩
  · rw [hrg, Maps.size]
    rw [(WideShapes.sorted_perm _).length_eq]
    simp
  · rw [hrg]
    simp only [strKeys]
    have := (WideShapes.sorted_perm (ks.map fun s => ((.string s : Lit), (.nil : DataW Unit)))).map (fun p => strOf p.1)
    refine this.trans ?_
    rw [List.map_map]
    have : ((fun p : Lit × DataW Unit => strOf p.1) ∘ fun s => ((.string s : Lit), (.nil : DataW Unit))) = id := rfl
    rw [this, List.map_id]

theorem sortedExt {f gk : Nat} {fn : Func} {k : TypeId} (hk : X.P.underlying k = some .string) (hfn : X.P.funcs[X.fnOf f]? = some fn) (hname : fn.name ≠ "runtime.NumGoroutine") (hbody : fn.body.isSome = true)
    (hsorted : ∀ (bx b nn : Nat) (D0 : DataW Unit) (w : World), bx < w.heap.size → w.cell? ⟨bx, 0, none⟩ = some (.map (some b)) → w.ownsMap X.P k unitR b nn D0 → Maps.size D0 ≤ 1048576 →
      Calls X.P (X.fnOf f) #[.func (.func (X.fnOf gk)) #[] #[.pointer (some ⟨bx, 0, none⟩)]] w fun e w' => ∃ (v : Value) (ss : List (List UInt8)), e = .returned v ∧ ss.Perm (strKeys D0) ∧
        w'.ownsRow w.heap.size k 1 v ss.length ((ss.mergeSort (fun x y => decide (x ≤ y))).map encStr) ∧ (v = .slice none 0 0 ↔ ss = []) ∧ Below w.heap.size w w') :
    ExsOk X f (sortedP gk) := by
  intro args S r S' h g w us hS hV
  unfold sortedP at h
  split at h
  · rename_i f' i
    split at h
    · rename_i hf
      subst hf
      split at h
      · rename_i m hbox
        split at h
        · rename_i cs hcs
          split at h
          · rename_i ks hks
            split at h
            · rename_i hb
              obtain ⟨hlen, hall⟩ := hb
              have hall : ∀ s ∈ ks, s.length ≤ maxLen := fun s hs => by simpa using List.all_eq_true.1 hall s hs
              cases h
              obtain ⟨x, rfl, hx⟩ := us_one hV
              cases hx
              rename_i cus hcl hcv
              have hcl : cus.size = 1 := hcl.symm
              have hp := hcv 0 _ cus[0] rfl (Array.getElem?_eq_getElem (by omega))
              have hcus : cus = #[cus[0]] := by
                apply Array.ext
                · simp [hcl]
                · intro j h1 h2; simp at h2; subst h2; rfl
              generalize cus[0] = p at hp hcus
              subst hcus
              cases hp
              rename_i bx hbx _
              obtain ⟨cs1, us1, t1, k1, k2, k3, k4⟩ := hS.obj _ _ hbx
              rw [hbox] at k1; cases k1
              have k3 : 0 < us1.size := k3
              have hm := k4 0 _ us1[0] rfl (Array.getElem?_eq_getElem (by omega))
              have hcell : w.cell? ⟨bx, 0, none⟩ = some us1[0] := by simp [World.cell?, k2, k3]
              generalize us1[0] = um at hm hcell
              cases hm
              rename_i b hb
              obtain ⟨cs', es, clock, h1, h2, h3, h4⟩ := hS.maps.ent m b hb
              rw [hcs] at h1; cases h1
              obtain ⟨D, d1, d2, d3⟩ := own_keys (P := X.P) (k := k) hk h2 h3 (keysOf_mr h4 ks hks) hlen hall
              refine runs_of_calls hfn hname hbody ((hsorted bx b _ D w (Array.getElem?_eq_some_iff.1 k2).1 hcell d1 (by rw [d2]; exact hlen)).mono fun e w' he => ?_)
              obtain ⟨v, ss, rfl, e1, e2, e3, e4⟩ := he
              have hperm : ss.Perm ks := e1.trans d3
              have hms : ss.mergeSort (fun x y => decide (x ≤ y)) = ks.mergeSort leB := mergeSort_of_perm hperm
              refine ⟨v, rfl, ?_⟩
              rw [hms] at e2
              cases ks with
              | nil =>
                have : ss = [] := List.Perm.eq_nil hperm
                rw [e3.2 this]
                exact ⟨g, le_below hS e4, sr_below hS e4, .nils⟩
              | cons k0 kr =>
                have hsne : ss ≠ [] := fun e => by rw [e] at hperm; have := hperm.length_eq; simp at this
                have hlen2 : ss.length = (((k0 :: kr).mergeSort leB).map PV.str).length := by rw [List.length_map, List.length_mergeSort, hperm.length_eq]
                rcases e2.2 with ⟨n1, _⟩ | ⟨g0, cap, cur, rfl, q1, q2, q3, q4, q5, q6⟩
                · exact absurd (e3.1 n1) hsne
                · rw [hlen2]
                  rw [hlen2] at q3 q6
                  simp only [List.isEmpty_cons, Bool.false_eq_true, if_false]
                  refine pub_below hS e4 q1 q2 (fun e he => ?_) q3 (fun j c hc => ?_)
                  · obtain ⟨s, _, rfl⟩ := List.mem_map.1 he
                    exact ⟨rfl, rfl⟩
                  · rw [List.getElem?_map] at hc
                    cases hs : ((k0 :: kr).mergeSort leB)[j]? with
                    | none => rw [hs] at hc; cases hc
                    | some s =>
                      rw [hs] at hc; cases hc
                      refine ⟨encStr s, ?_, .str s⟩
                      have hjl : j < ((k0 :: kr).mergeSort leB).length := (List.getElem?_eq_some_iff.1 hs).1
                      have : (cur.toList.take ((((k0 :: kr).mergeSort leB).map PV.str).length * 1))[j]? = some (encStr s) := by rw [q6, List.getElem?_map, hs]; rfl
                      rw [List.getElem?_take_of_lt (by simpa using hjl)] at this
                      simpa using this
            · cases h
          · cases h
        · cases h
      · cases h
    · cases h
  · cases h

end
end Ps
