/- One operation, whatever it does. -/
import Derived.Test.YtidloidlffjimaaSimSo
namespace Ps
open Go
section
variable {X : Tie} {g : Gh} {w : World} {n : Dn} {fr : Fr} {a : Act} {S : St}
def OpWp (X : Tie) (g : Gh) (w : World) (a : Act) (op : Go.Op) (S' : St) (v : PV) : Prop :=
 ∀ (dst : Option Tmp) (ty : TypeId) (pos : String) (after : Array Edge) (guard : Option (Nat × Bool)) (next : Act → World → Prop) (Q : Exit → Act → World → Prop),
  (∀ u w', Step X g w S' v u w' → next (a.put dst u) w') → (Oper.mk dst op ty pos after guard).wp X.P a w next Q

theorem Does.opWp (hS : SR X g S w) {op : Go.Op} {v : PV} (h : Does X g w a op v) : OpWp X g w a op S v := by
 intro dst ty pos after guard next Q hn
 obtain ⟨u, h1, h2⟩ := h dst ty pos after guard
 unfold Oper.wp
 rw [h1]
 exact hn u w ⟨g, Le.refl g w, hS, h2⟩

def CallRuns (X : Tie) (f : FuncId) (us : Array Value) (w : World) (K : Value → World → Prop) : Prop :=
 ∀ (o : Oper) (a : Act) (next : Act → World → Prop) (Q : Exit → Act → World → Prop), (∀ u w', K u w' → next (a.put o.dst u) w') → o.upon X.P a next Q ((callFunc f us).run X.P w)

def CallOk (X : Tie) (call : CallP) : Prop :=
 ∀ (f : Nat) (args : List PV) (S : St) (r : PV) (S' : St), call f args S = some (r, S') → ∀ (g : Gh) (w : World) (us : Array Value), SR X g S w → VRL X g w args us →
  CallRuns X (X.fnOf f) us w (fun u w' => Step X g w S' r u w')

def MethOk (X : Tie) : Prop :=
 ∀ (t m f : Nat), X.T.meth t m = some f → ∀ (u : Value) (w : World), (Go.method (X.P.types.size + Made.depth) (X.ty t) u (X.mn m)).run X.P w = .ok (X.fnOf f, u) w

theorem opds_vrl (hF : FR X n g w fr a) {xs : Array Operand} {ys : List Opd} (h : chkOpds X xs.toList ys = true) : VRL X g w (ys.map (ev fr)) (xs.map a.eval) := by
 obtain ⟨h1, h2⟩ := opds_sim hF h
 exact ⟨by simpa using h1, fun j c u e1 e2 => h2 j c u e1 (by simpa using e2)⟩

theorem vrl_append {cs ds : List PV} {us vs : Array Value} (h : VRL X g w cs us) (k : VRL X g w ds vs) : VRL X g w (cs ++ ds) (us ++ vs) := by
 refine ⟨by simp [h.1, k.1], fun j c u e1 e2 => ?_⟩
 by_cases hj : j < cs.length
 ·rw [List.getElem?_append_left hj] at e1
  rw [Array.getElem?_append_left (by rw [← h.1]; exact hj)] at e2
  exact h.2 j c u e1 e2
 ·rw [List.getElem?_append_right (by omega)] at e1
  rw [Array.getElem?_append_right (by rw [← h.1]; omega)] at e2
  rw [← h.1] at e2
  exact k.2 _ c u e1 e2

theorem vrl_cons {c : PV} {cs : List PV} {u : Value} {us : Array Value} (h : VR X g w c u) (k : VRL X g w cs us) : VRL X g w (c :: cs) (#[u] ++ us) := by
 refine vrl_append (cs := [c]) ⟨rfl, fun j c' u' e1 e2 => ?_⟩ k
 cases j with
 | zero => simp at e1 e2; subst e1; subst e2; exact h
 | succ j => simp at e1

theorem keepIf_spec {keep : Bool} {S : St} {q : Option (PV × St)} {v : PV} {S' : St} (h : keepIf keep S q = some (v, S')) : q = some (v, S') := by
 unfold keepIf at h
 split at h
 ·cases h
 ·split at h
  ·split at h
   ·cases h; rfl
   ·cases h
  ·cases h; rfl

theorem withSt_some {S S' : St} {q : Option PV} {v : PV} (h : withSt S q = some (v, S')) : S' = S ∧ q = some v := by
 cases q with
 | none => cases h
 | some x => cases h; exact ⟨rfl, rfl⟩

def gh0 (p : Nat → Nat) : Gh := ⟨fun _ => none, fun _ => none, fun _ => none, p, fun _ => none, fun _ => false⟩

theorem sr0 {p : Nat → Nat} (h : ∀ b, w.heap.size ≤ b → p b = 0) : SR X (gh0 p) St0 w where
 obj := fun id b h => absurd h (by simp [gh0])
 inj := fun i j b h => absurd h (by simp [gh0])
 objpub := fun i b h => absurd h (by simp [gh0])
 arr := fun b id base h => absurd h (by simp [gh0])
 asz := fun id sz h => absurd h (by simp [gh0])
 maps := MapsOk.no (fun i => rfl)
 lt := fun b hb => ⟨h b hb, rfl⟩

theorem pur_sim {call : CallP} (hC : CallOk X call) (hS : SR X g S w) {f : Nat} {args : List PV} {r : PV} {us : Array Value} (hV : VRL X g w args us) (h : purCall call f args = some r) :
  CallRuns X (X.fnOf f) us w (fun u w' => Step X g w S r u w') := by
 unfold purCall at h
 split at h
 ·rename_i hfree
  cases hc : call f (PV.frzL args) St0 with
  | none => rw [hc] at h; cases h
  | some q =>
   obtain ⟨r0, S1⟩ := q
   rw [hc] at h
   simp only [onlyVal] at h
   split at h
   ·rename_i hrf
    cases h
    let g0 : Gh := gh0 g.pub
    have hS0 : SR X g0 St0 w := sr0 (fun b hb => (hS.lt b hb).1)
    have hV0 : VRL X g0 w (PV.frzL args) us := by
     rw [frzL_map]
     refine ⟨by simpa using hV.1, fun j c u e1 e2 => ?_⟩
     rw [List.getElem?_map] at e1
     cases hc' : args[j]? with
     | none => rw [hc'] at e1; cases e1
     | some c' => rw [hc'] at e1; cases e1; exact VR.freeze (g1 := g) (g2 := g0) (fun _ => Nat.le_refl _) (hV.2 j c' u hc' e2) (freeL_mem hfree c' (List.mem_of_getElem? hc'))
    intro o a next Q hn
    refine hC f _ St0 r0 S1 hc g0 w us hS0 hV0 o a next Q (fun u w' hst => hn u w' ?_)
    obtain ⟨g1, hle, hS1, hr⟩ := hst
    let g2 : Gh := { g with pub := g1.pub }
    have hpo : ∀ b, b < w.heap.size → g1.pub b = g.pub b := fun b hb => hle.pubN b hb (fun id h => absurd h (by simp [g0, gh0])) rfl (fun id h => absurd h (by simp [g0, gh0]))
    have hkeep : ∀ b, b < w.heap.size → w'.heap[b]? = w.heap[b]? := fun b hb => hle.keep b hb (fun id h => absurd h (by simp [g0, gh0])) rfl (fun id h => absurd h (by simp [g0, gh0]))
    have hle2 : Le g w g2 w' := ⟨hle.os, hle.tape, hle.output, hle.size, fun _ _ h => h, fun _ _ h => h, fun _ _ h => h, hle.pub, hle.cell, hle.shape, fun id _ h => .inl ⟨id, h⟩, fun _ _ h => .inl h,
     fun b hb _ _ _ => hkeep b hb, fun b hb _ _ _ => hpo b hb, fun _ _ h => h, fun _ _ h => .inl h, fun b _ _ h e => ⟨h, by rw [hkeep b (hS.maps.fzb h)]; exact e⟩⟩
    refine ⟨g2, hle2, ⟨fun i b h => ?_, hS.inj, fun i b h => ?_, fun b id base h => ?_, hS.asz, fun b hb => ?_, hS.maps.of (fun _ _ h => h) (fun _ _ _ => rfl) (fun i b h => hkeep b (hS.maps.lt h)) (fun c u r => r.mono hle2) (fun i b h => ⟨hpo b (hS.maps.lt h), rfl⟩) (fun _ _ _ _ h => h)⟩, VR.freeze (g1 := g1) (g2 := g2) (fun _ => Nat.le_refl _) hr hrf⟩
    ·obtain ⟨cs, us', t, k1, k2, k3, k4⟩ := hS.obj i b h
     exact ⟨cs, us', t, k1, by rw [hkeep b (obj_lt hS i b h)]; exact k2, k3, fun j c u e1 e2 => (k4 j c u e1 e2).mono hle2⟩
    ·have k := hS.objpub i b h
     exact ⟨fun hl => by simp only [g2]; rw [hpo b (obj_lt hS i b h)]; exact k.1 hl, k.2⟩
    ·obtain ⟨sz, tip, k1, k2, k3, k4⟩ := hS.arr b id base h
     have hb : b < w.heap.size := by
      rcases Nat.lt_or_ge b w.heap.size with hb | hb
      ·exact hb
      ·have := (hS.lt b hb).2
       rw [show g.arr b = some (id, base) from h] at this; cases this
     exact ⟨sz, tip, k1, k2, k3, by simp only [g2]; rw [hpo b hb]; exact k4⟩
    ·have k := hS1.lt b hb
     have hb' : w.heap.size ≤ b := Nat.le_trans hle.size hb
     exact ⟨k.1, (hS.lt b hb').2⟩
   ·cases h
 ·cases h

theorem scalL_mem : ∀ {l : List PV}, PV.scalL l = true → ∀ v ∈ l, v.scal = true
 | [], _, v, hv => by simp at hv
 | a :: l, h, v, hv => by
  simp only [PV.scalL, Bool.and_eq_true] at h
  rcases List.mem_cons.1 hv with rfl | hv
  ·exact h.1
  ·exact scalL_mem h.2 v hv

theorem VR.ofScal {g1 g2 : Gh} {w1 w2 : World} {c : PV} {u : Value} (r : VR X g1 w1 c u) : c.scal = true → VR X g2 w2 c u := by
 induction r with
 | int k n => intro _; exact .int k n
 | bool b => intro _; exact .bool b
 | str s => intro _; exact .str s
 | nilp => intro _; exact .nilp
 | nils => intro _; exact .nils
 | nili => intro _; exact .nili
 | nilf => intro _; exact .nilf
 | nilm => intro _; exact .nilm
 | iface t v u _ ih => intro h; simp only [PV.scal] at h; exact .iface t v u (ih h)
 | agg cs us hl _ ih => intro h; simp only [PV.scal] at h; exact .agg cs us hl (fun j c u e1 e2 => ih j c u e1 e2 (scalL_mem h c (List.mem_of_getElem? e1)))
 | tup cs us hl _ ih => intro h; simp only [PV.scal] at h; exact .tup cs us hl (fun j c u e1 e2 => ih j c u e1 e2 (scalL_mem h c (List.mem_of_getElem? e1)))
 | _ => intro h; simp [PV.scal] at h

theorem snap_sim {call : CallP} (hC : CallOk X call) (hS : SR X g S w) {f : Nat} {args : List PV} {r : PV} {us : Array Value} (hV : VRL X g w args us) (h : snapCall call f args S = some r) :
  CallRuns X (X.fnOf f) us w (fun u w' => Step X g w S r u w') := by
 unfold snapCall at h
 split at h
 ·rename_i as hsol
  split at h
  ·rename_i r0 S1 hc
   split at h
   ·rename_i hsc
    cases h
    let gp : Gh := { g with pub := pubS g 0 S }
    let g0 : Gh := gh0 (pubS g 0 S)
    have hPl : ∀ b, w.heap.size ≤ b → pubS g 0 S b = 0 := by
     intro b hb
     rw [pubS_eq (fun id _ _ e => by have := obj_lt hS id b e; omega)]
     exact (hS.lt b hb).1
    have hS0 : SR X g0 St0 w := sr0 hPl
    have hV0 : VRL X g0 w (PV.frzL as) us := by
     obtain ⟨q1, q2⟩ := mapO_get hsol
     rw [frzL_map]
     refine ⟨by rw [List.length_map, ← q1]; exact hV.1, fun j c u e1 e2 => ?_⟩
     rw [List.getElem?_map] at e1
     cases hc' : as[j]? with
     | none => rw [hc'] at e1; cases e1
     | some c' =>
      rw [hc'] at e1; cases e1
      have hlt : j < args.length := by rw [q1]; exact (List.getElem?_eq_some_iff.1 hc').1
      have hs := q2 j args[j] c' (List.getElem?_eq_getElem hlt) hc'
      have hr := hV.2 j args[j] u (List.getElem?_eq_getElem hlt) e2
      have hr2 : VR X gp w c' u := sol_vr (g2 := gp) hS (n0 := 0) (fun _ _ h => h) (fun _ _ h => h) (pubS_ge hS) (pubS_obj hS) (solFuel + 1) solFuel (by omega) hs hr
      exact VR.freeze (g1 := gp) (g2 := g0) (fun _ => Nat.le_refl _) hr2 (sol_free _ hs)
    intro o a next Q hn
    refine hC f _ St0 r S1 hc g0 w us hS0 hV0 o a next Q (fun u w' hst => hn u w' ?_)
    obtain ⟨g1, hle, hS1, hr⟩ := hst
    have hkeep : ∀ b, b < w.heap.size → w'.heap[b]? = w.heap[b]? := fun b hb => hle.keep b hb (fun id h => absurd h (by simp [g0, gh0])) rfl (fun id h => absurd h (by simp [g0, gh0]))
    have hpl : ∀ b j, j < g.pub b → b < w.heap.size := fun b j hj => by
     rcases Nat.lt_or_ge b w.heap.size with h1 | h1
     ·exact h1
     ·rw [(hS.lt b h1).1] at hj; omega
    have hle2 : Le g w g w' := ⟨hle.os, hle.tape, hle.output, hle.size, fun _ _ h => h, fun _ _ h => h, fun _ _ h => h, fun _ => Nat.le_refl _, fun b j hj => by simp only [World.cell?]; rw [hkeep b (hpl b j hj)],
     fun b us t fz e => ⟨us, by rw [hkeep b (Array.getElem?_eq_some_iff.1 e).1]; exact e, rfl⟩, fun id _ h => .inl ⟨id, h⟩, fun _ _ h => .inl h,
     fun b hb _ _ _ => hkeep b hb, fun _ _ _ _ _ => rfl, fun _ _ h => h, fun _ _ h => .inl h, fun b _ _ h e => ⟨h, by rw [hkeep b (hS.maps.fzb h)]; exact e⟩⟩
    refine ⟨g, hle2, ⟨fun i b h => ?_, hS.inj, hS.objpub, hS.arr, hS.asz, fun b hb => hS.lt b (Nat.le_trans hle.size hb), hS.maps.of (fun _ _ h => h) (fun _ _ _ => rfl) (fun i b h => hkeep b (hS.maps.lt h)) (fun c u r => r.mono hle2) (fun _ _ _ => ⟨rfl, rfl⟩) (fun _ _ _ _ h => h)⟩, hr.ofScal hsc⟩
    obtain ⟨cs, us', t, k1, k2, k3, k4⟩ := hS.obj i b h
    exact ⟨cs, us', t, k1, by rw [hkeep b (obj_lt hS i b h)]; exact k2, k3, fun j c u e1 e2 => (k4 j c u e1 e2).mono hle2⟩
   ·cases h
  ·cases h
 ·cases h

theorem aCall_sim {call : CallP} (hC : CallOk X call) (hS : SR X g S w) {m : CM} {f : Nat} {args : List PV} {r : PV} {S' : St} {us : Array Value} (hV : VRL X g w args us) (h : aCall call m f args S = some (r, S')) :
  CallRuns X (X.fnOf f) us w (fun u w' => Step X g w S' r u w') := by
 cases m with
 | std => exact hC f args S r S' h g w us hS hV
 | keep => exact hC f args S r S' (keepIf_spec h) g w us hS hV
 | pur =>
  obtain ⟨rfl, h1⟩ := withSt_some h
  exact pur_sim hC hS hV h1
 | snap =>
  obtain ⟨rfl, h1⟩ := withSt_some h
  exact snap_sim hC hS hV h1

theorem call_opWp {call : CallP} (hC : CallOk X call) (hS : SR X g S w) (hF : FR X n g w fr a) {c : Go.Call} {m : CM} {f : Nat} {args : List Opd} {v : PV} {S' : St}
  (hf : (match c.callee with | .value (.func q) => X.fnOf f == q | _ => false) = true) (ha : chkOpds X c.args.toList args = true) (h : aCall call m f (args.map (ev fr)) S = some (v, S')) : OpWp X g w a (.call c) S' v := by
 intro dst ty pos after guard next Q hn
 obtain ⟨callee, cargs, tys⟩ := c
 simp only at hf ha
 split at hf
 ·simp only [beq_iff_eq] at hf
  subst hf
  have := aCall_sim hC hS (opds_vrl hF ha) h (Oper.mk dst (.call ⟨.value (.func (X.fnOf f)), cargs, tys⟩) ty pos after guard) a next Q hn
  unfold Oper.wp
  have e : execOp a.eval ⟨dst, .call ⟨.value (.func (X.fnOf f)), cargs, tys⟩, ty, pos, after, guard⟩ = callFunc (X.fnOf f) (cargs.map a.eval) := by
   simp [execOp, resolve, Act.eval, Deferred.ofValue, invoke]
  rw [e]
  exact this
 ·cases hf

theorem callv_opWp {call : CallP} (hC : CallOk X call) (hS : SR X g S w) (hF : FR X n g w fr a) {c : Go.Call} {m : CM} {x : Opd} {args : List Opd} {v : PV} {S' : St} {f : Nat} {caps : List PV}
  (hf : (match c.callee with | .value y => chkOpd X y x | _ => false) = true) (ha : chkOpds X c.args.toList args = true) (hx : ev fr x = .fn f caps)
  (h : aCall call m f (args.map (ev fr) ++ caps) S = some (v, S')) : OpWp X g w a (.call c) S' v := by
 intro dst ty pos after guard next Q hn
 obtain ⟨callee, cargs, tys⟩ := c
 simp only at hf ha
 split at hf
 ·rename_i y
  have r := opd_sim hF hf
  rw [hx] at r
  generalize hu : a.eval y = u at r
  cases r with
  | fn _ _ us hl hv =>
   have := aCall_sim hC hS (vrl_append (opds_vrl hF ha) ⟨hl, hv⟩) h (Oper.mk dst (.call ⟨.value y, cargs, tys⟩) ty pos after guard) a next Q hn
   unfold Oper.wp
   have e : execOp a.eval ⟨dst, .call ⟨.value y, cargs, tys⟩, ty, pos, after, guard⟩ = callFunc (X.fnOf f) (cargs.map a.eval ++ us) := by
    simp [execOp, resolve, hu, Deferred.ofValue, invoke]
   rw [e]
   exact this
 ·cases hf

theorem bcallv_opWp {call : CallP} (hC : CallOk X call) (hS : SR X g S w) (hF : FR X n g w fr a) {c : Go.Call} {m : CM} {x : Opd} {args : List Opd} {v : PV} {S' : St} {f : Nat} {first : List PV}
  (hf : (match c.callee with | .value y => chkOpd X y x | _ => false) = true) (ha : chkOpds X c.args.toList args = true) (hx : ev fr x = .bfn f first)
  (h : aCall call m f (first ++ args.map (ev fr)) S = some (v, S')) : OpWp X g w a (.call c) S' v := by
 intro dst ty pos after guard next Q hn
 obtain ⟨callee, cargs, tys⟩ := c
 simp only at hf ha
 split at hf
 ·rename_i y
  have r := opd_sim hF hf
  rw [hx] at r
  generalize hu : a.eval y = u at r
  cases r with
  | bfn _ _ us hl hv =>
   have := aCall_sim hC hS (vrl_append ⟨hl, hv⟩ (opds_vrl hF ha)) h (Oper.mk dst (.call ⟨.value y, cargs, tys⟩) ty pos after guard) a next Q hn
   unfold Oper.wp
   have e : execOp a.eval ⟨dst, .call ⟨.value y, cargs, tys⟩, ty, pos, after, guard⟩ = callFunc (X.fnOf f) (us ++ cargs.map a.eval) := by
    simp [execOp, resolve, hu, Deferred.ofValue, invoke]
   rw [e]
   exact this
 ·cases hf

theorem inv_opWp {call : CallP} (hM : MethOk X) (hC : CallOk X call) (hS : SR X g S w) (hF : FR X n g w fr a) {c : Go.Call} {cm : CM} {m : Nat} {x : Opd} {args : List Opd} {v v0 : PV} {S' : St} {f t : Nat}
  (hf : (match c.callee with | .invoke y name => X.mn m == name && chkOpd X y x | _ => false) = true) (ha : chkOpds X c.args.toList args = true) (hx : ev fr x = .iface t v0) (hm : X.T.meth t m = some f)
  (h : aCall call cm f (v0 :: args.map (ev fr)) S = some (v, S')) : OpWp X g w a (.call c) S' v := by
 intro dst ty pos after guard next Q hn
 obtain ⟨callee, cargs, tys⟩ := c
 simp only at hf ha
 split at hf
 ·rename_i y name
  simp only [Bool.and_eq_true, beq_iff_eq] at hf
  obtain ⟨rfl, hf⟩ := hf
  have r := opd_sim hF hf
  rw [hx] at r
  generalize hu : a.eval y = u at r
  cases r with
  | iface _ _ u0 hv =>
   have := aCall_sim hC hS (vrl_cons hv (opds_vrl hF ha)) h (Oper.mk dst (.call ⟨.invoke y (X.mn m), cargs, tys⟩) ty pos after guard) a next Q hn
   unfold Oper.wp
   have e : (execOp a.eval ⟨dst, .call ⟨.invoke y (X.mn m), cargs, tys⟩, ty, pos, after, guard⟩).run X.P w = (callFunc (X.fnOf f) (#[u0] ++ cargs.map a.eval)).run X.P w := by
    have hex : (#[Value.iface (X.ty t) u0] ++ cargs.map a.eval).extract 1 (#[Value.iface (X.ty t) u0] ++ cargs.map a.eval).size = cargs.map a.eval := by
     apply Array.ext'
     simp [List.take_of_length_le]
    have h0 : (#[Value.iface (X.ty t) u0] ++ cargs.map a.eval)[0]? = some (.iface (X.ty t) u0) := by
     rw [Array.getElem?_append_left (by simp)]; rfl
    simp only [execOp, resolve, hu, Sem.run_bind, Sem.run_pure, Result.andThen_ok, invoke, h0, hex, callMethod, run_program, hM t m f hm]
   rw [e]
   exact this
 ·cases hf

theorem loadptr_does (hS : SR X g S w) (hF : FR X n g w fr a) {ag : Bool} {m : Nat} {x : Opd} {x' : Operand} {t : TypeId} {id off : Nat} {cs : List PV} (ht : isAggT X.P t ag m = true) (hx : chkOpd X x' x = true)
  (he : ev fr x = .ptr id off) (hcs : S.objs[id]? = some cs) {v : PV} (hv : partOf ag m (cs.drop off) = some v) : Does X g w a (.load t x') v := by
 intro dst ty pos after guard
 have r := opd_sim hF hx
 rw [he] at r
 generalize hu : a.eval x' = u at r
 cases r with
 | ptr _ _ b hb =>
  have hc := (obj_cells hS hb hcs).drop off
  rw [Nat.zero_add] at hc
  obtain ⟨u, h4, h5⟩ := load_run ht hv hc
  exact ⟨u, by simp [execOp, hu, Instr.loadAt, Instr.sureAddr, h4], h5⟩

theorem store_opWp (hS : SR X g S w) (hF : FR X n g w fr a) {m : Nat} {p x : Opd} {p' x' : Operand} {t : TypeId} {id off : Nat} {cs : List PV}
  (ht : (match X.P.info? t with | some i => i.size == m | none => false) = true) (hp : chkOpd X p' p = true) (hx : chkOpd X x' x = true) (he : ev fr p = .ptr id off) (hcs : S.objs[id]? = some cs)
  (hm : (ev fr x).cells.length = m) (hoff : off + m ≤ cs.length) (hone : (ev fr x).cells.all PV.one = true) :
  OpWp X g w a (.store t p' x') { S with objs := S.objs.set id (putCells cs off (ev fr x).cells) } .und := by
 intro dst ty pos after guard next Q hn
 have r := opd_sim hF hp
 rw [he] at r
 have rx := opd_sim hF hx
 generalize hu : a.eval p' = u at r
 cases r with
 | ptr _ _ b hb =>
  have hsz : (Go.sizeOf t).run X.P w = .ok m w := by
   split at ht
   ·rename_i i hi; simp only [beq_iff_eq] at ht; simp [Go.sizeOf, typeInfo, hi, ht]
   ·cases ht
  obtain ⟨w', h1, h2⟩ := store_step hS hb hcs rx hone hm hoff hsz
  unfold Oper.wp
  have e : (execOp a.eval ⟨dst, .store t p' x', ty, pos, after, guard⟩).run X.P w = .ok .skip w' := by
   simp only [execOp, Sem.run_bind, hu, h1, Result.andThen_ok, Sem.run_pure]
  rw [e]
  exact hn undef w' h2

theorem box_opWp (hS : SR X g S w) (hF : FR X n g w fr a) {ro : Bool} {x : Opd} {x' : Operand} {t : TypeId} (hx : chkOpd X x' x = true) (hone : (ev fr x).cells.all PV.one = true) {v : PV} {S' : St}
  (h : (if ro then (PV.ref (ev fr x).cells, S) else newObj S (ev fr x).cells) = (v, S')) : OpWp X g w a (.box t x') S' v := by
 intro dst ty pos after guard next Q hn
 have r := cells_vrl (opd_sim hF hx) hone
 unfold Oper.wp
 have e : (execOp a.eval ⟨dst, .box t x', ty, pos, after, guard⟩).run X.P w = .ok (.value (.pointer (some ⟨w.heap.size, 0, none⟩))) (w.alloc (.cells (a.eval x').cells t)) := by
  simp [execOp, Instr.box, newVar, newRow]
 rw [e]
 refine hn _ _ ?_
 cases ro
 ·simp only [Bool.false_eq_true, if_false] at h
  have := obj_step hS r t
  rw [h] at this
  exact this
 ·simp only [if_true] at h
  cases h
  exact ref_step hS r t

theorem zeroCells_spec {P : Program} {t : TypeId} {z : List PV} (h : zeroCellsT P t z = true) : ∃ u, (zeroValue t).run P w = .ok u w ∧ constsOk u.cells.toList z = true := by
 unfold zeroCellsT at h
 split at h
 ·rename_i i hi
  split at h
  ·rename_i u hu
   exact ⟨u, by simp [zeroValue, typeInfo, hi, hu], h⟩
  ·cases h
 ·cases h

theorem alloc_opWp (hS : SR X g S w) {ro : Bool} {z : List PV} {t : TypeId} (hz : zeroCellsT X.P t z = true) {v : PV} {S' : St}
  (h : (if ro then (PV.ref z, S) else newObj S z) = (v, S')) : OpWp X g w a (.alloc t) S' v := by
 intro dst ty pos after guard next Q hn
 obtain ⟨u, h1, h2⟩ := zeroCells_spec (w := w) hz
 have r0 := consts_sim (X := X) (g := g) (w := w) h2
 have r : VRL X g w z u.cells := ⟨by simpa using r0.1, fun j c x e1 e2 => r0.2 j c x e1 (by simpa using e2)⟩
 unfold Oper.wp
 have e : (execOp a.eval ⟨dst, .alloc t, ty, pos, after, guard⟩).run X.P w = .ok (.value (.pointer (some ⟨w.heap.size, 0, none⟩))) (w.alloc (.cells u.cells t)) := by
  simp [execOp, Instr.alloc, newVar, newRow, h1]
 rw [e]
 refine hn _ _ ?_
 cases ro
 ·simp only [Bool.false_eq_true, if_false] at h
  have := obj_step hS r t
  rw [h] at this
  exact this
 ·simp only [if_true] at h
  cases h
  exact ref_step hS r t

theorem toBytes_opWp (hS : SR X g S w) (hF : FR X n g w fr a) {ro : Bool} {v : PV} {S' : St} {x : Opd} {x' : Operand} {s d : TypeId} {str : List UInt8} (hs : (X.P.underlying s).isSome = true)
  (hd : (match X.P.underlying d with | some (.slice e) => isIntT X.P e .u8 | _ => false) = true) (hx : chkOpd X x' x = true) (he : ev fr x = .str str)
  (h : (if ro then (PV.sl none (ofBytes str) [], S) else newArr S 1 (ofBytes str)) = (v, S')) : OpWp X g w a (.convert s d x') S' v := by
 intro dst ty pos after guard next Q hn
 have r := opd_sim hF hx
 rw [he] at r
 generalize hu : a.eval x' = u at r
 cases r
 split at hd
 ·rename_i e hue
  have hu8 := intT_spec hd
  obtain ⟨ds, hds⟩ := Option.isSome_iff_exists.1 hs
  have hsize : (ByteArray.mk str.toArray).size = str.length := by simp [ByteArray.size]
  obtain ⟨cap, hcap⟩ : ∃ cap, cap = (Question.appendCap str.length 0 e).cut (w.tape w.drawn (.appendCap str.length 0 e)) := ⟨_, rfl⟩
  have hge : str.length ≤ cap := by
   rw [hcap]; simp only [Question.cut]; omega
  let us : Array Value := (str.map fun b => Value.int .u8 b.toNat).toArray ++ Array.replicate (cap - str.length) (.int .u8 0)
  have hus : us.size = cap := by simp [us]; omega
  have hrun : (execOp a.eval ⟨dst, .convert s d x', ty, pos, after, guard⟩).run X.P w =
    .ok (.value (.slice (some ⟨w.heap.size, 0, none⟩) str.length cap)) ((w.drew.alloc (.cells us e)).freeze ⟨w.heap.size, cap, none⟩ 1) := by
   have hsh : (w.drew.alloc (.cells us e)).shape? w.heap.size = some (e, us.size) := by
    simp only [World.shape?, drew_alloc_heap, push_get, if_pos]
   simp only [execOp, Sem.run_bind, hu, convert, run_underlying hds, run_underlying hue, run_underlying hu8, Result.andThen_ok, Conv.stringToBytes, run_choose, Question.forced, hsize, Bool.false_eq_true, if_false, ← hcap, newRow, run_newObj, Sem.run_pure]
   have e1 : ((str.toArray.map fun b => Value.int .u8 b.toNat) ++ Array.replicate (cap - str.length) (Value.int .u8 0)) = us := by simp [us]
   simp only [e1]
   have e2 : ({ heap := w.heap.push (.cells us e), tape := w.tape, drawn := w.drawn + 1, os := w.os, output := w.output } : World) = w.drew.alloc (.cells us e) := rfl
   rw [e2]
   simp only [markStringish, Sem.run_bind, run_shape, Result.andThen_ok]
   rw [hsh]
   simp [hus]
  unfold Oper.wp
  rw [hrun]
  refine hn _ _ ?_
  have hheap : ((w.drew.alloc (.cells us e)).freeze ⟨w.heap.size, cap, none⟩ 1).heap = w.heap.push (.cells us e (cap, cap + 1)) := by
   simp only [World.freeze, drew_alloc_heap]
   simp only [Nat.one_ne_zero, if_false]
   apply Array.ext_getElem?
   intro k
   rw [Array.getElem?_modify, push_get, push_get]
   by_cases hk : k = w.heap.size
   ·subst hk; simp
   ·rw [if_neg (Ne.symm hk), if_neg hk, if_neg hk]
  have hone : ∀ x ∈ ofBytes str, x.cells = [x] ∧ x.one = true := by
   intro x hx
   simp only [ofBytes, List.mem_map] at hx
   obtain ⟨b, _, rfl⟩ := hx
   exact ⟨rfl, rfl⟩
  have hcells : ∀ (j : Nat) (c : PV), ((ofBytes str).flatMap PV.cells)[j]? = some c → ∃ u, us[j]? = some u ∧ VR X g w c u := by
   intro j c hc
   rw [flat_one (fun x hx => (hone x hx).1)] at hc
   simp only [ofBytes, List.getElem?_map] at hc
   cases hj : str[j]? with
   | none => rw [hj] at hc; cases hc
   | some b =>
    rw [hj] at hc; cases hc
    have hjl := (List.getElem?_eq_some_iff.1 hj).1
    refine ⟨_, ?_, .int _ _⟩
    simp only [us]
    rw [Array.getElem?_append_left (by simpa using hjl)]
    simp [hj]
  have e1 : ((w.drew.alloc (.cells us e)).freeze ⟨w.heap.size, cap, none⟩ 1).os = w.os := by simp [World.freeze]; rfl
  have e2 : ((w.drew.alloc (.cells us e)).freeze ⟨w.heap.size, cap, none⟩ 1).tape = w.tape := by simp [World.freeze]
  have e3 : ((w.drew.alloc (.cells us e)).freeze ⟨w.heap.size, cap, none⟩ 1).output = w.output := by simp [World.freeze]; rfl
  cases ro
  ·simp only [Bool.false_eq_true, if_false] at h
   have hst := newArr_step hS (es := ofBytes str) (us := us) (t := e) (lo := cap) (hi := cap + 1) (sz := 1) (cap := cap)
    (w' := (w.drew.alloc (.cells us e)).freeze ⟨w.heap.size, cap, none⟩ 1) hheap e1 e2 e3 (by omega)
    (fun x hx => by rw [(hone x hx).1]; rfl) (fun x hx => by rw [(hone x hx).1]; simp [(hone x hx).2]) (by simpa [ofBytes] using hge) (by omega) (.inr (by omega)) hcells
   rw [h] at hst
   simpa [ofBytes] using hst
  ·simp only [if_true] at h
   cases h
   have hst := slro_step hS (es := ofBytes str) (us := us) (t := e) (lo := cap) (hi := cap + 1) (sz := 1) (cap := cap)
    (w' := (w.drew.alloc (.cells us e)).freeze ⟨w.heap.size, cap, none⟩ 1) hheap e1 e2 e3 (by omega)
    (fun x hx => by rw [(hone x hx).1]; rfl) (fun x hx => by rw [(hone x hx).1]; simp [(hone x hx).2]) (by simpa [ofBytes] using hge) (by omega) hcells
   simpa [ofBytes] using hst
 ·cases hd

end
end Ps
