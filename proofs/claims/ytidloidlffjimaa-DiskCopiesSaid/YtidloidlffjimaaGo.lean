/- A flat machine over the pure semantics, with one equation a form of code: for walking through a function by rewriting. -/
import Derived.Test.YtidloidlffjimaaDefs
namespace Ps
open Go
def CLe (c d : CallP) : Prop := ∀ f args S r, c f args S = some r → d f args S = some r

theorem keepIf_le {c d : CallP} (h : CLe c d) {keep : Bool} {S : St} {f : Nat} {args : List PV} {r : PV × St} (e : keepIf keep S (c f args S) = some r) : keepIf keep S (d f args S) = some r := by
 cases hc : c f args S with
 | none => rw [hc] at e; cases e
 | some q => rw [hc] at e; rw [h _ _ _ _ hc]; exact e

theorem purCall_le {c d : CallP} (h : CLe c d) {f : Nat} {args : List PV} {r : PV} (e : purCall c f args = some r) : purCall d f args = some r := by
 unfold purCall at e ⊢
 split at e
 ·rename_i hf
  rw [if_pos hf]
  cases hc : c f (PV.frzL args) St0 with
  | none => rw [hc] at e; cases e
  | some q => rw [hc] at e; rw [h _ _ _ _ hc]; exact e
 ·cases e

theorem snapCall_le {c d : CallP} (h : CLe c d) {f : Nat} {args : List PV} {S : St} {r : PV} (e : snapCall c f args S = some r) : snapCall d f args S = some r := by
 unfold snapCall at e ⊢
 cases hs : mapO (sol S.objs 0 solFuel) args with
 | none => rw [hs] at e; cases e
 | some as =>
  rw [hs] at e
  simp only at e ⊢
  cases hc : c f (PV.frzL as) St0 with
  | none => rw [hc] at e; cases e
  | some q => rw [hc] at e; rw [h _ _ _ _ hc]; exact e

theorem aCall_le {c d : CallP} (h : CLe c d) {m : CM} {f : Nat} {args : List PV} {S : St} {r : PV × St} (e : aCall c m f args S = some r) : aCall d m f args S = some r := by
 cases m with
 | std => exact h _ _ _ _ e
 | keep => exact keepIf_le h e
 | pur =>
  simp only [aCall] at e ⊢
  cases hc : purCall c f args with
  | none => rw [hc] at e; cases e
  | some q => rw [hc] at e; rw [purCall_le h hc]; exact e
 | snap =>
  simp only [aCall] at e ⊢
  cases hc : snapCall c f args S with
  | none => rw [hc] at e; cases e
  | some q => rw [hc] at e; rw [snapCall_le h hc]; exact e

theorem pstep_le {T : Tbl} {c d : CallP} (h : CLe c d) {fr : Fr} {S : St} {op : POp} {r : PV × St} (e : pstep T c fr S op = some r) : pstep T d fr S op = some r := by
 cases op
 case call m f xs => simp only [pstep] at e ⊢; exact aCall_le h e
 case callv m x xs =>
  simp only [pstep] at e ⊢
  cases hx : ev fr x <;> rw [hx] at e <;> first | exact aCall_le h e | cases e
 case inv cm m x xs =>
  simp only [pstep] at e ⊢
  cases hx : ev fr x <;> rw [hx] at e <;> try (cases e; done)
  rename_i t v
  simp only at e ⊢
  cases hm : T.meth t m with
  | none => rw [hm] at e; cases e
  | some f => rw [hm] at e; exact aCall_le h e
 case callb b f xs =>
  simp only [pstep] at e ⊢
  cases hx : fr b <;> rw [hx] at e <;> try (cases e; done)
  simp only at e ⊢
  cases hc : c f (xs.map (ev fr)) S with
  | none => rw [hc] at e; cases e
  | some q => rw [hc] at e; rw [h _ _ _ _ hc]; exact e
 case load ag n mix x => cases mix <;> simpa only [pstep] using e
 all_goals simpa only [pstep] using e

theorem pops_le {T : Tbl} {c d : CallP} (h : CLe c d) : ∀ {l : List POper} {fr : Fr} {S : St} {r : Fr × St}, pops T c l fr S = some r → pops T d l fr S = some r
 | [], _, _, _, e => e
 | o :: l, fr, S, r, e => by
  simp only [pops] at e ⊢
  cases hw : wantedP fr o.guard with
  | none => rw [hw] at e; cases e
  | some b =>
   rw [hw] at e
   cases b with
   | false => exact pops_le h e
   | true =>
    simp only at e ⊢
    cases hp : pstep T c fr S o.op with
    | none => rw [hp] at e; cases e
    | some q =>
     obtain ⟨v, S'⟩ := q
     rw [hp] at e
     rw [pstep_le h hp]
     exact pops_le h e

theorem rngRun_le {it it' : PV → PV → Fr → St → Option (Fr × St)} (h : ∀ k v fr S r, it k v fr S = some r → it' k v fr S = some r) : ∀ {l : List (PV × PV)} {fr : Fr} {S : St} {r : Fr × St}, rngRun it l fr S = some r → rngRun it' l fr S = some r
 | [], _, _, _, e => e
 | (k, v) :: l, fr, S, r, e => by
  simp only [rngRun] at e ⊢
  cases hp : it k v fr S with
  | none => rw [hp] at e; cases e
  | some q => rw [hp] at e; rw [h _ _ _ _ _ hp]; exact rngRun_le h e

theorem perm_short {α : Type} {p l : List α} (h : p.Perm l) (hl : l.length ≤ 1) : p = l := by
 match l, hl with
 | [], _ => exact h.eq_nil
 | [x], _ => exact List.perm_singleton.1 h

theorem rngAll_some {it : PV → PV → Fr → St → Option (Fr × St)} {l : List (PV × PV)} {fr : Fr} {S : St} {r : Fr × St} : rngAll it l fr S = some r ↔ ∀ p : List (PV × PV), p.Perm l → rngRun it p fr S = some r := by
  unfold rngAll
  constructor
  · intro e p hp
    cases hr : rngRun it l fr S with
    | none => rw [hr] at e; cases e
    | some q =>
      rw [hr] at e
      simp only at e
      split at e
      · rename_i h1; cases e; rw [perm_short hp h1]; exact hr
      · split at e
        · rename_i h2; cases e; exact h2 p hp
        · cases e
  · intro h
    rw [h l (List.Perm.refl _)]
    simp only
    split
    · rfl
    · first
      | rfl
      | (split
         · rfl
         · rename_i h2; exact absurd h h2)

theorem rngAll_le {it it' : PV → PV → Fr → St → Option (Fr × St)} (h : ∀ k v fr S r, it k v fr S = some r → it' k v fr S = some r) {l : List (PV × PV)} {fr : Fr} {S : St} {r : Fr × St} (e : rngAll it l fr S = some r) : rngAll it' l fr S = some r :=
 rngAll_some.2 fun p hp => rngRun_le h (rngAll_some.1 e p hp)

theorem rngIt_le {T : Tbl} {c d : CallP} (h : CLe c d) {run run' : Fr → St → Option (Ex × Fr × St)} (hr : ∀ fr S r, run fr S = some r → run' fr S = some r) {id : Nat} {cs : List PV} {en : Nat} {post : List POper} {l : List (Nat × Nat)} {k v : PV} {fr : Fr} {S : St} {r : Fr × St}
  (e : rngIt T c run id cs en post l k v fr S = some r) : rngIt T d run' id cs en post l k v fr S = some r := by
 unfold rngIt at e ⊢
 cases hp : pops T c post (updO fr (some en) (.tup [k, v])) S with
 | none => rw [hp] at e; cases e
 | some q =>
  obtain ⟨fr2, S2⟩ := q
  rw [hp] at e; rw [pops_le h hp]
  simp only at e ⊢
  cases hb : run fr2 S2 with
  | none => rw [hb] at e; cases e
  | some q => rw [hb] at e; rw [hr _ _ _ hb]; exact e

theorem rngRest_le {T : Tbl} {c d : CallP} (h : CLe c d) {run run' : Fr → St → Option (Ex × Fr × St)} (hr : ∀ fr S r, run fr S = some r → run' fr S = some r) {x : Opd} {en : Nat} {post : List POper} {l : List (Nat × Nat)} {fr : Fr} {S : St} {r : Fr × St}
  (e : rngRest T c run x en post l fr S = some r) : rngRest T d run' x en post l fr S = some r := by
 unfold rngRest at e ⊢
 cases hx : ev fr x <;> rw [hx] at e <;> try (cases e; done)
 rename_i id
 simp only at e ⊢
 cases hc : S.objs[id]? with
 | none => rw [hc] at e; cases e
 | some cs =>
  rw [hc] at e
  exact rngAll_le (fun k v fr S r => rngIt_le h hr) e

theorem pcode_le {T : Tbl} {c d : CallP} (h : CLe c d) : ∀ {k j : Nat} {code : PCode} {fr : Fr} {S : St} {r : Ex × Fr × St}, k ≤ j → pcode T c k code fr S = some r → pcode T d j code fr S = some r := by
 intro k
 induction k with
 | zero => intro j code fr S r _ e; simp [pcode] at e
 | succ k ih =>
  intro j code fr S r hkj e
  obtain ⟨j, rfl⟩ : ∃ i, j = i + 1 := ⟨j - 1, by omega⟩
  have hkj' : k ≤ j := by omega
  cases code with
  | skip => exact e
  | ret => exact e
  | exit n => exact e
  | bad => simp [pcode] at e
  | region ops =>
   simp only [pcode] at e ⊢
   cases hp : pops T c ops fr S with
   | none => rw [hp] at e; cases e
   | some q => rw [hp] at e; rw [pops_le h hp]; exact e
  | seq a b =>
   simp only [pcode] at e ⊢
   cases hp : pcode T c k a fr S with
   | none => rw [hp] at e; cases e
   | some q =>
    obtain ⟨ex, fr1, S1⟩ := q
    rw [hp] at e; rw [ih hkj' hp]
    cases ex with
    | norm => exact ih hkj' e
    | exit n => exact e
    | ret => exact e
  | cond x a b =>
   simp only [pcode] at e ⊢
   cases hx : ev fr x <;> rw [hx] at e <;> try (cases e; done)
   rename_i q
   cases q <;> exact ih hkj' e
  | block n b =>
   simp only [pcode] at e ⊢
   cases hp : pcode T c k b fr S with
   | none => rw [hp] at e; cases e
   | some q =>
    rw [hp] at e; rw [ih hkj' hp]; exact e
  | scope b =>
   simp only [pcode] at e ⊢
   exact ih hkj' e
  | clr l b =>
   simp only [pcode] at e ⊢
   cases hp : pcode T c k b fr S with
   | none => rw [hp] at e; cases e
   | some q => rw [hp] at e; rw [ih hkj' hp]; exact e
  | rng pre x en post l b =>
   simp only [pcode] at e ⊢
   cases hp : pops T c pre fr S with
   | none => rw [hp] at e; cases e
   | some q =>
    obtain ⟨fr1, S1⟩ := q
    rw [hp] at e; rw [pops_le h hp]
    simp only at e ⊢
    cases hr : rngRest T c (fun fr S => pcode T c k b fr S) x en post l fr1 S1 with
    | none => rw [hr] at e; cases e
    | some q =>
     rw [hr] at e
     rw [rngRest_le h (fun _ _ _ e => ih hkj' e) hr]
     exact e
  | loop b =>
   simp only [pcode] at e ⊢
   cases hp : pcode T c k b fr S with
   | none => rw [hp] at e; cases e
   | some q =>
    obtain ⟨ex, fr1, S1⟩ := q
    rw [hp] at e; rw [ih hkj' hp]
    cases ex with
    | norm => exact ih hkj' e
    | exit n => exact e
    | ret => exact e

theorem pseq_le {T : Tbl} {c d : CallP} (h : CLe c d) {k j : Nat} (hkj : k ≤ j) : ∀ {l : List PCode} {fr : Fr} {S : St} {r : Fr × St}, pseq T c k l fr S = some r → pseq T d j l fr S = some r
 | [], _, _, _, e => e
 | p :: l, fr, S, r, e => by
  simp only [pseq] at e ⊢
  cases hp : pcode T c k p fr S with
  | none => rw [hp] at e; cases e
  | some q =>
   rw [hp] at e
   rw [pcode_le h hkj hp]
   obtain ⟨x, fr1, S1⟩ := q
   cases x with
   | norm => exact pseq_le h hkj e
   | exit m => cases e
   | ret => cases e
theorem plast_le {c d : CallP} (h : CLe c d) {cf : Nat} {caps : List PV} {fr : Fr} {S : St} {r : Fr × St} (e : plast c cf caps fr S = some r) : plast d cf caps fr S = some r := by
 unfold plast at e ⊢
 cases hc : c cf caps S with
 | none => rw [hc] at e; cases e
 | some q => rw [hc] at e; rw [h _ _ _ _ hc]; exact e
theorem pdef_le {T : Tbl} {c d : CallP} (h : CLe c d) {k j : Nat} (hkj : k ≤ j) {f : PDef} {fr : Fr} {S : St} {r : Fr × St} (e : pdef T c k f fr S = some r) : pdef T d j f fr S = some r := by
 unfold pdef at e ⊢
 cases hp : pseq T c k f.pre fr S with
 | none => rw [hp] at e; cases e
 | some q =>
  obtain ⟨fr1, S1⟩ := q
  rw [hp] at e
  rw [pseq_le h hkj hp]
  simp only at e ⊢
  cases ho : pops T c [f.clo] fr1 S1 with
  | none => rw [ho] at e; cases e
  | some q =>
   obtain ⟨fr2, S2⟩ := q
   rw [ho] at e
   rw [pops_le h ho]
   simp only at e ⊢
   cases ht : fr2 f.t <;> rw [ht] at e <;> try (cases e; done)
   rename_i cf caps
   simp only at e ⊢
   split at e
   ·rename_i hcf
    rw [if_pos hcf]
    cases hr : pcode T c k f.rest fr2 S2 with
    | none => rw [hr] at e; cases e
    | some q =>
     obtain ⟨x, fr3, S3⟩ := q
     rw [hr] at e
     rw [pcode_le h hkj hr]
     cases x with
     | norm => exact plast_le h e
     | exit m => cases e
     | ret => exact plast_le h e
   ·cases e

theorem pcall_le (T : Tbl) : ∀ {k j : Nat}, k ≤ j → CLe (pcall T k) (pcall T j) := by
 intro k
 induction k with
 | zero => intro j _ f args S r e; simp [pcall] at e
 | succ k ih =>
  intro j hkj f args S r e
  obtain ⟨j, rfl⟩ : ∃ i, j = i + 1 := ⟨j - 1, by omega⟩
  simp only [pcall] at e ⊢
  cases hf : T.fn f with
  | none => rw [hf] at e; cases e
  | some pf =>
   rw [hf] at e
   cases pf with
   | indexByte => exact e
   | ext _ => exact e
   | exs _ => exact e
   | codeD c =>
    simp only at e ⊢
    split at e
    ·rename_i ha
     rw [if_pos ha]
     cases hp : pdef T (pcall T k) k c (argsFr args) S with
     | none => rw [hp] at e; cases e
     | some q =>
      rw [hp] at e
      rw [pdef_le (ih (by omega : k ≤ j)) (by omega) hp]
      exact e
    ·cases e
   | code c =>
    simp only at e ⊢
    split at e
    ·rename_i ha
     rw [if_pos ha]
     cases hp : pcode T (pcall T k) k c.body (argsFr args) S with
     | none => rw [hp] at e; cases e
     | some q =>
      rw [hp] at e
      rw [pcode_le (ih (by omega : k ≤ j)) (by omega) hp]
      exact e
    ·cases e

inductive Kt where
 | code (c : PCode)
 | ops (l : List POper)
 | blk (n : Nat)
 | lp (b : PCode)
 | clr (l : List (Nat × Nat))
 | rg (x : Opd) (en : Nat) (post : List POper) (l : List (Nat × Nat)) (b : PCode)

def exitKt (n : Nat) : List Kt → Option (List Kt)
 | [] => none
 | .blk m :: K => if n = m then some K else exitKt n K
 | _ :: K => exitKt n K

noncomputable def kmach (T : Tbl) : Nat → List Kt → Fr → St → Option (Fr × St)
 | 0, _, _, _ => none
 | _ + 1, [], fr, S => some (fr, S)
 | k + 1, .code .skip :: K, fr, S => kmach T k K fr S
 | _ + 1, .code .ret :: _, fr, S => some (fr, S)
 | k + 1, .code (.exit n) :: K, fr, S => match exitKt n K with | some K' => kmach T k K' fr S | none => none
 | k + 1, .code (.region l) :: K, fr, S => kmach T k (.ops l :: K) fr S
 | k + 1, .code (.seq a b) :: K, fr, S => kmach T k (.code a :: .code b :: K) fr S
 | k + 1, .code (.cond c t e) :: K, fr, S => match ev fr c with
  | .bool true => kmach T k (.code t :: K) fr S
  | .bool false => kmach T k (.code e :: K) fr S
  | _ => none
 | k + 1, .code (.block n b) :: K, fr, S => kmach T k (.code b :: .blk n :: K) fr S
 | k + 1, .code (.loop b) :: K, fr, S => kmach T k (.lp b :: K) fr S
 | _ + 1, .code .bad :: _, _, _ => none
 | k + 1, .lp b :: K, fr, S => kmach T k (.code b :: .lp b :: K) fr S
 | k + 1, .code (.clr l b) :: K, fr, S => kmach T k (.code b :: .clr l :: K) fr S
 | k + 1, .code (.scope b) :: K, fr, S => kmach T k (.code b :: K) fr S
 | k + 1, .clr l :: K, fr, S => kmach T k K (clrs l fr) S
 | k + 1, .code (.rng pre x en post l b) :: K, fr, S => kmach T k (.ops pre :: .rg x en post l b :: K) fr S
 | k + 1, .rg x en post l b :: K, fr, S => match rngRest T (pcall T k) (fun fr S => pcode T (pcall T k) k b fr S) x en post l fr S with
  | some (fr', S') => kmach T k K fr' S'
  | none => none
 | k + 1, .blk _ :: K, fr, S => kmach T k K fr S
 | k + 1, .ops [] :: K, fr, S => kmach T k K fr S
 | k + 1, .ops (o :: l) :: K, fr, S => match wantedP fr o.guard with
  | none => none
  | some false => kmach T k (.ops l :: K) (updO fr o.dst (.tup [])) S
  | some true => match pstep T (pcall T k) fr S o.op with
   | some (v, S') => kmach T k (.ops l :: K) (updO fr o.dst v) S'
   | none => none

theorem kmach_le (T : Tbl) : ∀ {k j : Nat} {K : List Kt} {fr : Fr} {S : St} {r : Fr × St}, k ≤ j → kmach T k K fr S = some r → kmach T j K fr S = some r := by
 intro k
 induction k with
 | zero => intro j K fr S r _ e; simp [kmach] at e
 | succ k ih =>
  intro j K fr S r hkj e
  obtain ⟨j, rfl⟩ : ∃ i, j = i + 1 := ⟨j - 1, by omega⟩
  have hk : k ≤ j := by omega
  match K with
  | [] => exact e
  | .code .skip :: K => simp only [kmach] at e ⊢; exact ih hk e
  | .code .ret :: _ => exact e
  | .code (.exit n) :: K =>
   simp only [kmach] at e ⊢
   cases hx : exitKt n K with
   | none => rw [hx] at e; cases e
   | some K' => rw [hx] at e; exact ih hk e
  | .code (.region l) :: K => simp only [kmach] at e ⊢; exact ih hk e
  | .code (.seq a b) :: K => simp only [kmach] at e ⊢; exact ih hk e
  | .code (.cond c t el) :: K =>
   simp only [kmach] at e ⊢
   cases hx : ev fr c <;> rw [hx] at e <;> try (cases e; done)
   rename_i q
   cases q <;> exact ih hk e
  | .code (.block n b) :: K => simp only [kmach] at e ⊢; exact ih hk e
  | .code (.loop b) :: K => simp only [kmach] at e ⊢; exact ih hk e
  | .code .bad :: K => simp [kmach] at e
  | .lp b :: K => simp only [kmach] at e ⊢; exact ih hk e
  | .blk n :: K => simp only [kmach] at e ⊢; exact ih hk e
  | .code (.clr l b) :: K => simp only [kmach] at e ⊢; exact ih hk e
  | .code (.scope b) :: K => simp only [kmach] at e ⊢; exact ih hk e
  | .clr l :: K => simp only [kmach] at e ⊢; exact ih hk e
  | .code (.rng pre x en post l b) :: K => simp only [kmach] at e ⊢; exact ih hk e
  | .rg x en post l b :: K =>
   simp only [kmach] at e ⊢
   cases hr : rngRest T (pcall T k) (fun fr S => pcode T (pcall T k) k b fr S) x en post l fr S with
   | none => rw [hr] at e; cases e
   | some q =>
    obtain ⟨fr', S'⟩ := q
    rw [hr] at e
    rw [rngRest_le (pcall_le T hk) (fun _ _ _ e => pcode_le (pcall_le T hk) hk e) hr]
    exact ih hk e
  | .ops [] :: K => simp only [kmach] at e ⊢; exact ih hk e
  | .ops (o :: l) :: K =>
   simp only [kmach] at e ⊢
   cases hw : wantedP fr o.guard with
   | none => rw [hw] at e; cases e
   | some b =>
    rw [hw] at e
    cases b with
    | false => exact ih hk e
    | true =>
     simp only at e ⊢
     cases hp : pstep T (pcall T k) fr S o.op with
     | none => rw [hp] at e; cases e
     | some q =>
      obtain ⟨v, S'⟩ := q
      rw [hp] at e
      rw [pstep_le (pcall_le T hk) hp]
      exact ih hk e

open Classical in
noncomputable def lim {α : Type} (f : Nat → Option α) : Option α := if h : ∃ k x, f k = some x then f (Classical.choose h) else none

def Mono {α : Type} (f : Nat → Option α) : Prop := ∀ k j x, k ≤ j → f k = some x → f j = some x

theorem lim_some {α : Type} {f : Nat → Option α} (hm : Mono f) {x : α} : lim f = some x ↔ ∃ k, f k = some x := by
 constructor
 ·intro h
  unfold lim at h
  split at h
  ·exact ⟨_, h⟩
  ·cases h
 ·rintro ⟨k, hk⟩
  unfold lim
  have h : ∃ k x, f k = some x := ⟨k, x, hk⟩
  rw [dif_pos h]
  obtain ⟨y, hy⟩ := Classical.choose_spec h
  have h1 := hm _ (max (Classical.choose h) k) y (Nat.le_max_left _ _) hy
  have h2 := hm _ (max (Classical.choose h) k) x (Nat.le_max_right _ _) hk
  rw [h1] at h2; cases h2
  exact hy

theorem lim_eq {α : Type} {f : Nat → Option α} (hm : Mono f) {y : Option α} (h : ∀ x, (∃ k, f k = some x) ↔ y = some x) : lim f = y := by
 apply Option.ext
 intro x
 rw [lim_some hm]
 exact h x

noncomputable def cval (T : Tbl) : CallP := fun f args S => lim fun k => pcall T k f args S

noncomputable def gval (T : Tbl) (K : List Kt) (fr : Fr) (S : St) : Option (Fr × St) := lim fun k => kmach T k K fr S

noncomputable def pval (T : Tbl) (f : Nat) (args : List PV) : Option PV := onlyVal (cval T f args St0)

theorem mono_pcall (T : Tbl) (f : Nat) (args : List PV) (S : St) : Mono fun k => pcall T k f args S := fun _ _ _ h e => pcall_le T h _ _ _ _ e
theorem mono_kmach (T : Tbl) (K : List Kt) (fr : Fr) (S : St) : Mono fun k => kmach T k K fr S := fun _ _ _ h e => kmach_le T h e

theorem cval_some {T : Tbl} {f : Nat} {args : List PV} {S : St} {x : PV × St} : cval T f args S = some x ↔ ∃ k, pcall T k f args S = some x := lim_some (mono_pcall T f args S)
theorem gval_some {T : Tbl} {K : List Kt} {fr : Fr} {S : St} {x : Fr × St} : gval T K fr S = some x ↔ ∃ k, kmach T k K fr S = some x := lim_some (mono_kmach T K fr S)

theorem pcall_cle (T : Tbl) (k : Nat) : CLe (pcall T k) (cval T) := fun _ _ _ _ e => cval_some.2 ⟨k, e⟩

theorem cval_of {T : Tbl} (k : Nat) {f : Nat} {args : List PV} {S : St} {x : PV × St} (h : pcall T k f args S = some x) : cval T f args S = some x := cval_some.2 ⟨k, h⟩

theorem pstep_lim {T : Tbl} {fr : Fr} {S : St} {op : POp} {x : PV × St} (h : pstep T (cval T) fr S op = some x) : ∃ k, pstep T (pcall T k) fr S op = some x := by
 have key : ∀ {m : CM} {f : Nat} {args : List PV}, aCall (cval T) m f args S = some x → ∃ k, aCall (pcall T k) m f args S = some x := by
  intro m f args h
  cases m with
  | std => exact cval_some.1 h
  | keep =>
   simp only [aCall] at h ⊢
   cases hc : cval T f args S with
   | none => rw [hc] at h; cases h
   | some q =>
    rw [hc] at h
    obtain ⟨k, hk⟩ := cval_some.1 hc
    exact ⟨k, by rw [hk]; exact h⟩
  | pur =>
   simp only [aCall, purCall] at h ⊢
   split at h
   ·rename_i hf
    cases hc : cval T f (PV.frzL args) St0 with
    | none => rw [hc] at h; cases h
    | some q =>
     rw [hc] at h
     obtain ⟨k, hk⟩ := cval_some.1 hc
     exact ⟨k, by rw [if_pos hf, hk]; exact h⟩
   ·cases h
  | snap =>
   simp only [aCall, snapCall] at h ⊢
   cases hs : mapO (sol S.objs 0 solFuel) args with
   | none => rw [hs] at h; cases h
   | some as =>
    rw [hs] at h
    simp only at h ⊢
    cases hc : cval T f (PV.frzL as) St0 with
    | none => rw [hc] at h; cases h
    | some q =>
     rw [hc] at h
     obtain ⟨k, hk⟩ := cval_some.1 hc
     exact ⟨k, by rw [hk]; exact h⟩
 cases op
 case call m f xs => simp only [pstep] at h ⊢; exact key h
 case callv m x xs =>
  simp only [pstep] at h ⊢
  cases hx : ev fr x <;> rw [hx] at h <;> first | exact key h | cases h
 case inv cm m x xs =>
  simp only [pstep] at h ⊢
  cases hx : ev fr x <;> rw [hx] at h <;> try (cases h; done)
  rename_i t v
  simp only at h ⊢
  cases hm : T.meth t m with
  | none => rw [hm] at h; cases h
  | some f => rw [hm] at h; exact key h
 case callb b f xs =>
  simp only [pstep] at h ⊢
  cases hx : fr b <;> rw [hx] at h <;> try (cases h; done)
  simp only at h ⊢
  cases hc : cval T f (xs.map (ev fr)) S with
  | none => rw [hc] at h; cases h
  | some q =>
   rw [hc] at h
   obtain ⟨k, hk⟩ := cval_some.1 hc
   exact ⟨k, by rw [hk]; exact h⟩
 case load ag n mix x => cases mix <;> exact ⟨0, by simpa only [pstep] using h⟩
 all_goals exact ⟨0, by simpa only [pstep] using h⟩

section
variable {T : Tbl} {K : List Kt} {fr : Fr} {S : St}
theorem gval_step {K1 : List Kt} {fr1 : Fr} {S1 : St} (h : ∀ k, kmach T (k + 1) K fr S = kmach T k K1 fr1 S1) : gval T K fr S = gval T K1 fr1 S1 := by
 refine lim_eq (mono_kmach T K fr S) fun x => ?_
 rw [gval_some]
 constructor
 ·rintro ⟨k, e⟩
  cases k with
  | zero => simp [kmach] at e
  | succ k => exact ⟨k, by rw [← h]; exact e⟩
 ·rintro ⟨k, e⟩
  exact ⟨k + 1, by rw [h]; exact e⟩

theorem gval_done (h : ∀ k, kmach T (k + 1) K fr S = some (fr, S)) : gval T K fr S = some (fr, S) := gval_some.2 ⟨1, h 0⟩

theorem gval_nil : gval T [] fr S = some (fr, S) := gval_done fun _ => rfl
theorem gval_skip : gval T (.code .skip :: K) fr S = gval T K fr S := gval_step fun _ => rfl
theorem gval_ret : gval T (.code .ret :: K) fr S = some (fr, S) := gval_done fun _ => rfl
theorem gval_exit {n : Nat} : gval T (.code (.exit n) :: K) fr S = match exitKt n K with | some K' => gval T K' fr S | none => none := by
 cases h : exitKt n K with
 | some K' => exact gval_step fun _ => by simp [kmach, h]
 | none =>
  refine lim_eq (mono_kmach T _ fr S) fun x => ⟨?_, fun h => by cases h⟩
  rintro ⟨k, e⟩
  cases k with
  | zero => simp [kmach] at e
  | succ k => simp [kmach, h] at e
theorem gval_region {l : List POper} : gval T (.code (.region l) :: K) fr S = gval T (.ops l :: K) fr S := gval_step fun _ => rfl
theorem gval_seq {a b : PCode} : gval T (.code (.seq a b) :: K) fr S = gval T (.code a :: .code b :: K) fr S := gval_step fun _ => rfl
theorem gval_block {n : Nat} {b : PCode} : gval T (.code (.block n b) :: K) fr S = gval T (.code b :: .blk n :: K) fr S := gval_step fun _ => rfl
theorem gval_loop {b : PCode} : gval T (.code (.loop b) :: K) fr S = gval T (.lp b :: K) fr S := gval_step fun _ => rfl
theorem gval_lp {b : PCode} : gval T (.lp b :: K) fr S = gval T (.code b :: .lp b :: K) fr S := gval_step fun _ => rfl
theorem gval_scope {b : PCode} : gval T (.code (.scope b) :: K) fr S = gval T (.code b :: K) fr S := gval_step fun _ => rfl
theorem gval_clr {l : List (Nat × Nat)} {b : PCode} : gval T (.code (.clr l b) :: K) fr S = gval T (.code b :: .clr l :: K) fr S := gval_step fun _ => rfl
theorem gval_clrs {l : List (Nat × Nat)} : gval T (.clr l :: K) fr S = gval T K (clrs l fr) S := gval_step fun _ => rfl
theorem gval_blk {n : Nat} : gval T (.blk n :: K) fr S = gval T K fr S := gval_step fun _ => rfl
theorem gval_ops_nil : gval T (.ops [] :: K) fr S = gval T K fr S := gval_step fun _ => rfl

def br {α : Type} (v : PV) (a b : Option α) : Option α := match v with | .bool true => a | .bool false => b | _ => none

theorem br_true {α : Type} {a b : Option α} : br (.bool true) a b = a := rfl
theorem br_false {α : Type} {a b : Option α} : br (.bool false) a b = b := rfl
theorem gval_cond {c : Opd} {t e : PCode} : gval T (.code (.cond c t e) :: K) fr S = br (ev fr c) (gval T (.code t :: K) fr S) (gval T (.code e :: K) fr S) := by
 have bad : (∀ k, kmach T (k + 1) (.code (.cond c t e) :: K) fr S = none) → gval T (.code (.cond c t e) :: K) fr S = none := by
  intro hn
  refine lim_eq (mono_kmach T _ fr S) fun x => ⟨?_, fun h => by cases h⟩
  rintro ⟨k, e⟩
  cases k with
  | zero => simp [kmach] at e
  | succ k => rw [hn] at e; cases e
 cases h : ev fr c
 case bool b => cases b <;> exact gval_step fun _ => by simp [kmach, h]
 all_goals exact bad fun k => by simp [kmach, h]

noncomputable def stepV (T : Tbl) (fr : Fr) (S : St) (op : POp) : Option (PV × St) := pstep T (cval T) fr S op

theorem gval_op {d : Option Nat} {op : POp} {l : List POper} : gval T (.ops (⟨d, op, none⟩ :: l) :: K) fr S = (stepV T fr S op).bind fun x => gval T (.ops l :: K) (updO fr d x.1) x.2 := by
 refine lim_eq (mono_kmach T _ fr S) fun x => ?_
 constructor
 ·rintro ⟨k, e⟩
  cases k with
  | zero => simp [kmach] at e
  | succ k =>
   simp only [kmach, wantedP] at e
   cases hp : pstep T (pcall T k) fr S op with
   | none => rw [hp] at e; cases e
   | some q =>
    obtain ⟨v, S'⟩ := q
    rw [hp] at e
    rw [stepV, pstep_le (pcall_cle T k) hp]
    exact gval_some.2 ⟨k, e⟩
 ·intro h
  rw [stepV] at h
  cases hp : pstep T (cval T) fr S op with
  | none => rw [hp] at h; cases h
  | some q =>
   obtain ⟨v, S'⟩ := q
   rw [hp] at h
   obtain ⟨k, hk⟩ := pstep_lim hp
   obtain ⟨j, hj⟩ := gval_some.1 (show gval T (.ops l :: K) (updO fr d v) S' = some x from h)
   refine ⟨max k j + 1, ?_⟩
   simp only [kmach, wantedP, pstep_le (pcall_le T (Nat.le_max_left k j)) hk]
   exact kmach_le T (Nat.le_max_right k j) hj

def grd {α : Type} (v : PV) (b : Bool) (x y : Option α) : Option α := match v with | .bool c => if c == b then x else y | .tup [] => y | _ => none

theorem gval_guard {d : Option Nat} {op : POp} {l : List POper} {t : Nat} {b : Bool} :
  gval T (.ops (⟨d, op, some (t, b)⟩ :: l) :: K) fr S = grd (fr t) b (gval T (.ops (⟨d, op, none⟩ :: l) :: K) fr S) (gval T (.ops l :: K) (updO fr d (.tup [])) S) := by
 have bad : (∀ k, kmach T (k + 1) (.ops (⟨d, op, some (t, b)⟩ :: l) :: K) fr S = none) → gval T (.ops (⟨d, op, some (t, b)⟩ :: l) :: K) fr S = none := by
  intro hn
  refine lim_eq (mono_kmach T _ fr S) fun x => ⟨?_, fun h => by cases h⟩
  rintro ⟨k, e⟩
  cases k with
  | zero => simp [kmach] at e
  | succ k => rw [hn] at e; cases e
 cases h : fr t
 case bool c =>
  simp only [grd]
  by_cases e : c = b
  ·subst e
   simp only [beq_self_eq_true, if_true]
   refine lim_eq (mono_kmach T _ fr S) fun x => ?_
   rw [gval_some]
   constructor
   ·rintro ⟨k, q⟩
    cases k with
    | zero => simp [kmach] at q
    | succ k => exact ⟨k + 1, by simpa [kmach, wantedP, h] using q⟩
   ·rintro ⟨k, q⟩
    cases k with
    | zero => simp [kmach] at q
    | succ k => exact ⟨k + 1, by simpa [kmach, wantedP, h] using q⟩
  ·have e' : (c == b) = false := by simpa using e
   simp only [e', Bool.false_eq_true, if_false]
   exact gval_step fun k => by simp only [kmach, wantedP, h, e']
 case tup vs =>
  cases vs with
  | nil => exact gval_step fun k => by simp only [kmach, wantedP, h]
  | cons => exact bad fun k => by simp [kmach, wantedP, h]
 all_goals exact bad fun k => by simp [kmach, wantedP, h]

theorem aCall_pur {f : Nat} {args : List PV} : aCall (cval T) .pur f args S = if PV.freeL args then withSt S (pval T f (PV.frzL args)) else none := by
 simp only [aCall, purCall, pval]
 split <;> rfl

end
theorem kmach_ops (T : Tbl) : ∀ (l : List POper) (k : Nat) (K : List Kt) (fr : Fr) (S : St) (r : Fr × St), kmach T k (.ops l :: K) fr S = some r →
  ∃ fr1 S1 i, pops T (pcall T k) l fr S = some (fr1, S1) ∧ i < k ∧ kmach T i K fr1 S1 = some r
 | [], 0, _, _, _, _, h => by simp [kmach] at h
 | [], k + 1, K, fr, S, r, h => ⟨fr, S, k, rfl, by omega, by simpa only [kmach] using h⟩
 | o :: l, 0, _, _, _, _, h => by simp [kmach] at h
 | o :: l, k + 1, K, fr, S, r, h => by
  simp only [kmach] at h
  simp only [pops]
  cases hw : wantedP fr o.guard with
  | none => rw [hw] at h; cases h
  | some b =>
   rw [hw] at h
   cases b with
   | false =>
    obtain ⟨fr1, S1, i, h1, h2, h3⟩ := kmach_ops T l k K _ _ r h
    exact ⟨fr1, S1, i, pops_le (pcall_le T (by omega)) h1, by omega, h3⟩
   | true =>
    simp only at h ⊢
    cases hp : pstep T (pcall T k) fr S o.op with
    | none => rw [hp] at h; cases h
    | some q =>
     obtain ⟨v, S'⟩ := q
     rw [hp] at h
     obtain ⟨fr1, S1, i, h1, h2, h3⟩ := kmach_ops T l k K _ _ r h
     refine ⟨fr1, S1, i, ?_, by omega, h3⟩
     rw [pstep_le (pcall_le T (by omega : k ≤ k + 1)) hp]
     exact pops_le (pcall_le T (by omega)) h1

def After (T : Tbl) (k : Nat) (K : List Kt) (r : Fr × St) : Ex → Fr → St → Prop
 | .norm, fr1, S1 => ∃ i, i < k ∧ kmach T i K fr1 S1 = some r
 | .exit m, fr1, S1 => ∃ K' i, exitKt m K = some K' ∧ i < k ∧ kmach T i K' fr1 S1 = some r
 | .ret, fr1, S1 => r = (fr1, S1)

theorem After.mono {T : Tbl} {k j : Nat} {K : List Kt} {r : Fr × St} {e : Ex} {fr1 : Fr} {S1 : St} (h : After T k K r e fr1 S1) (hk : k ≤ j) : After T j K r e fr1 S1 := by
 cases e with
 | norm => obtain ⟨i, h1, h2⟩ := h; exact ⟨i, by omega, h2⟩
 | exit m => obtain ⟨K', i, h0, h1, h2⟩ := h; exact ⟨K', i, h0, by omega, h2⟩
 | ret => exact h

theorem kmach_code (T : Tbl) : ∀ (k : Nat) (c : PCode) (K : List Kt) (fr : Fr) (S : St) (r : Fr × St), kmach T k (.code c :: K) fr S = some r →
  ∃ e fr1 S1, pcode T (pcall T k) k c fr S = some (e, fr1, S1) ∧ After T k K r e fr1 S1 := by
 intro k
 induction k using Nat.strongRecOn with
 | _ k ih =>
  intro c K fr S r h
  cases k with
  | zero => simp [kmach] at h
  | succ k =>
   have lift : ∀ {c : PCode} {fr : Fr} {S : St} {x : Ex × Fr × St}, pcode T (pcall T k) k c fr S = some x → pcode T (pcall T (k + 1)) k c fr S = some x := fun h => pcode_le (pcall_le T (by omega)) (Nat.le_refl _) h
   have liftI : ∀ {i : Nat} {c : PCode} {fr : Fr} {S : St} {x : Ex × Fr × St}, i ≤ k → pcode T (pcall T i) i c fr S = some x → pcode T (pcall T (k + 1)) k c fr S = some x := fun hi h => pcode_le (pcall_le T (by omega)) hi h
   cases c with
   | skip => simp only [kmach] at h; exact ⟨.norm, fr, S, rfl, k, by omega, h⟩
   | ret => simp only [kmach, Option.some.injEq] at h; exact ⟨.ret, fr, S, rfl, h.symm⟩
   | bad => simp [kmach] at h
   | exit n =>
    simp only [kmach] at h
    cases hx : exitKt n K with
    | none => rw [hx] at h; cases h
    | some K' => rw [hx] at h; exact ⟨.exit n, fr, S, rfl, K', k, hx, by omega, h⟩
   | region l =>
    simp only [kmach] at h
    obtain ⟨fr1, S1, i, h1, h2, h3⟩ := kmach_ops T l k K fr S r h
    refine ⟨.norm, fr1, S1, ?_, i, by omega, h3⟩
    simp only [pcode]
    rw [pops_le (pcall_le T (by omega : k ≤ k + 1)) h1]
   | seq a b =>
    simp only [kmach] at h
    obtain ⟨e, fr1, S1, h1, h2⟩ := ih k (by omega) a _ fr S r h
    cases e with
    | norm =>
     obtain ⟨i, hi, h3⟩ := h2
     obtain ⟨e2, fr2, S2, h4, h5⟩ := ih i (by omega) b _ fr1 S1 r h3
     refine ⟨e2, fr2, S2, ?_, h5.mono (by omega)⟩
     simp only [pcode]
     rw [lift h1]
     exact liftI (by omega) h4
    | exit m =>
     refine ⟨.exit m, fr1, S1, ?_, ?_⟩
     ·simp only [pcode]; rw [lift h1]
     ·obtain ⟨K', i, q1, q2, q3⟩ := h2
      exact ⟨K', i, by simpa only [exitKt] using q1, by omega, q3⟩
    | ret => exact ⟨.ret, fr1, S1, by simp only [pcode]; rw [lift h1], h2⟩
   | cond x a b =>
    simp only [kmach] at h
    cases hx : ev fr x <;> rw [hx] at h <;> try (cases h; done)
    rename_i q
    cases q with
    | true =>
     obtain ⟨e, fr1, S1, h1, h2⟩ := ih k (by omega) a _ fr S r h
     exact ⟨e, fr1, S1, by simp only [pcode, hx]; exact lift h1, h2.mono (by omega)⟩
    | false =>
     obtain ⟨e, fr1, S1, h1, h2⟩ := ih k (by omega) b _ fr S r h
     exact ⟨e, fr1, S1, by simp only [pcode, hx]; exact lift h1, h2.mono (by omega)⟩
   | block n b =>
    simp only [kmach] at h
    obtain ⟨e, fr1, S1, h1, h2⟩ := ih k (by omega) b _ fr S r h
    cases e with
    | norm =>
     obtain ⟨i, hi, h3⟩ := h2
     cases i with
     | zero => simp [kmach] at h3
     | succ i =>
      simp only [kmach] at h3
      exact ⟨.norm, fr1, S1, by simp only [pcode]; rw [lift h1], i, by omega, h3⟩
    | exit m =>
     obtain ⟨K', i, q1, q2, q3⟩ := h2
     simp only [exitKt] at q1
     by_cases hm : m = n
     ·rw [if_pos hm] at q1
      cases q1
      exact ⟨.norm, fr1, S1, by simp only [pcode]; rw [lift h1]; simp [hm], i, by omega, q3⟩
     ·rw [if_neg hm] at q1
      exact ⟨.exit m, fr1, S1, by simp only [pcode]; rw [lift h1]; simp [hm], K', i, q1, by omega, q3⟩
    | ret => exact ⟨.ret, fr1, S1, by simp only [pcode]; rw [lift h1], h2⟩
   | rng pre x en post l b =>
    simp only [kmach] at h
    obtain ⟨fr1, S1, i, h1, h2, h3⟩ := kmach_ops T pre k _ fr S r h
    cases i with
    | zero => simp [kmach] at h3
    | succ i =>
     simp only [kmach] at h3
     cases hr : rngRest T (pcall T i) (fun fr S => pcode T (pcall T i) i b fr S) x en post l fr1 S1 with
     | none => rw [hr] at h3; cases h3
     | some q =>
      obtain ⟨fr', S'⟩ := q
      rw [hr] at h3
      refine ⟨.norm, fr', S', ?_, i, by omega, h3⟩
      simp only [pcode]
      rw [pops_le (pcall_le T (by omega : k ≤ k + 1)) h1]
      simp only
      rw [rngRest_le (pcall_le T (by omega : i ≤ k + 1)) (fun _ _ _ e => pcode_le (pcall_le T (by omega : i ≤ k + 1)) (by omega : i ≤ k) e) hr]
   | scope b =>
    simp only [kmach] at h
    obtain ⟨e, fr1, S1, h1, h2⟩ := ih k (by omega) b _ fr S r h
    exact ⟨e, fr1, S1, by simp only [pcode]; exact lift h1, h2.mono (by omega)⟩
   | clr l b =>
    simp only [kmach] at h
    obtain ⟨e, fr1, S1, h1, h2⟩ := ih k (by omega) b _ fr S r h
    cases e with
    | norm =>
     obtain ⟨i, hi, h3⟩ := h2
     cases i with
     | zero => simp [kmach] at h3
     | succ i =>
      simp only [kmach] at h3
      exact ⟨.norm, clrs l fr1, S1, by simp only [pcode]; rw [lift h1], i, by omega, h3⟩
    | exit m =>
     refine ⟨.exit m, fr1, S1, ?_, ?_⟩
     ·simp only [pcode]; rw [lift h1]
     ·obtain ⟨K', i, q1, q2, q3⟩ := h2
      exact ⟨K', i, by simpa only [exitKt] using q1, by omega, q3⟩
    | ret => exact ⟨.ret, fr1, S1, by simp only [pcode]; rw [lift h1], h2⟩
   | loop b =>
    simp only [kmach] at h
    cases k with
    | zero => simp [kmach] at h
    | succ k =>
     simp only [kmach] at h
     obtain ⟨e, fr1, S1, h1, h2⟩ := ih k (by omega) b _ fr S r h
     have h1' := liftI (i := k) (by omega) h1
     cases e with
     | norm =>
      obtain ⟨i, hi, h3⟩ := h2
      obtain ⟨e2, fr2, S2, h4, h5⟩ := ih (i + 1) (by omega) (.loop b) K fr1 S1 r (by simp only [kmach]; exact h3)
      refine ⟨e2, fr2, S2, ?_, h5.mono (by omega)⟩
      simp only [pcode] at h1' ⊢
      rw [h1']
      exact liftI (by omega) h4
     | exit m =>
      refine ⟨.exit m, fr1, S1, ?_, ?_⟩
      ·simp only [pcode]; rw [h1']
      ·obtain ⟨K', i, q1, q2, q3⟩ := h2
       exact ⟨K', i, by simpa only [exitKt] using q1, by omega, q3⟩
     | ret => exact ⟨.ret, fr1, S1, by simp only [pcode]; rw [h1'], h2⟩

def insAll {α : Type} (a : α) : List α → List (List α)
 | [] => [[a]]
 | b :: l => (a :: b :: l) :: (insAll a l).map (b :: ·)
def permsL {α : Type} : List α → List (List α)
 | [] => [[]]
 | a :: l => (permsL l).flatMap (insAll a)

theorem mem_insAll {α : Type} (a : α) (t : List α) : ∀ s : List α, (s ++ a :: t) ∈ insAll a (s ++ t)
 | [] => by cases t <;> simp [insAll]
 | b :: s => by simp only [List.cons_append, insAll, List.mem_cons, List.mem_map]; exact .inr ⟨_, mem_insAll a t s, rfl⟩

theorem mem_permsL {α : Type} : ∀ {l p : List α}, p.Perm l → p ∈ permsL l
 | [], p, h => by rw [h.eq_nil]; simp [permsL]
 | a :: l, p, h => by
  have ha : a ∈ p := h.mem_iff.2 (by simp)
  obtain ⟨s, t, rfl⟩ := List.append_of_mem ha
  have h2 : (s ++ t).Perm l := (List.perm_cons a).1 ((List.perm_middle.symm).trans h)
  exact List.mem_flatMap.2 ⟨s ++ t, mem_permsL h2, mem_insAll a t s⟩

theorem all_fuel {α : Type} {F : Nat → α → Prop} (hm : ∀ k j x, k ≤ j → F k x → F j x) : ∀ (l : List α), (∀ x ∈ l, ∃ k, F k x) → ∃ k, ∀ x ∈ l, F k x
 | [], _ => ⟨0, by simp⟩
 | x :: l, h => by
  obtain ⟨k, hk⟩ := h x (by simp)
  obtain ⟨j, hj⟩ := all_fuel hm l (fun y hy => h y (by simp [hy]))
  refine ⟨max k j, fun y hy => ?_⟩
  rcases List.mem_cons.1 hy with rfl | hy
  ·exact hm _ _ _ (Nat.le_max_left _ _) hk
  ·exact hm _ _ _ (Nat.le_max_right _ _) (hj y hy)

def RgTo (T : Tbl) (id : Nat) (cs : List PV) (en : Nat) (post : List POper) (l : List (Nat × Nat)) (b : PCode) : List (PV × PV) → Fr → St → Fr × St → Prop
 | [], fr, S, r => r = (fr, S)
 | (k, v) :: p, fr, S, r => ∃ fr1 S1, (∀ K, gval T (.ops post :: .code b :: .clr l :: K) (upd fr en (.tup [k, v])) S = gval T K fr1 S1) ∧ S1.objs[id]? = some cs ∧ RgTo T id cs en post l b p fr1 S1 r

theorem PV_ne (v : PV) : ∃ u : PV, u ≠ v := by
 cases v with
 | nilp => exact ⟨.nils, by simp⟩
 | _ => exact ⟨.nilp, by simp⟩

theorem rngIt_of {T : Tbl} {id : Nat} {cs : List PV} {en : Nat} {post : List POper} {l : List (Nat × Nat)} {b : PCode} {k v : PV} {fr fr1 : Fr} {S S1 : St} (hbeq : PV.beqL cs cs = true)
  (h : ∀ K, gval T (.ops post :: .code b :: .clr l :: K) (upd fr en (.tup [k, v])) S = gval T K fr1 S1) (hcs : S1.objs[id]? = some cs) :
  ∃ j, rngIt T (pcall T j) (fun fr S => pcode T (pcall T j) j b fr S) id cs en post l k v fr S = some (fr1, S1) := by
 have dec : ∀ (K : List Kt) (r : Fr × St), gval T K fr1 S1 = some r → ∃ j e fr2 S2 fr3 S3 q, pops T (pcall T j) post (upd fr en (.tup [k, v])) S = some (fr2, S2) ∧ pcode T (pcall T j) j b fr2 S2 = some (e, fr3, S3) ∧ After T q (.clr l :: K) r e fr3 S3 := by
  intro K r hr
  obtain ⟨j, hj⟩ := gval_some.1 ((h K).trans hr)
  obtain ⟨fr2, S2, i, h1, h2, h3⟩ := kmach_ops T post j _ _ S r hj
  obtain ⟨e, fr3, S3, h4, h5⟩ := kmach_code T i b _ fr2 S2 r h3
  exact ⟨j, e, fr2, S2, fr3, S3, i, h1, pcode_le (pcall_le T (by omega)) (by omega) h4, h5⟩
 obtain ⟨j, e, fr2, S2, fr3, S3, q, h1, h2, h3⟩ := dec [] (fr1, S1) gval_nil
 refine ⟨j, ?_⟩
 unfold rngIt
 simp only [updO]
 rw [h1]
 simp only [h2]
 cases e with
 | norm =>
  obtain ⟨i, hi, h4⟩ := h3
  cases i with
  | zero => simp [kmach] at h4
  | succ i =>
   simp only [kmach] at h4
   cases i with
   | zero => simp [kmach] at h4
   | succ i =>
    simp only [kmach, Option.some.injEq, Prod.mk.injEq] at h4
    obtain ⟨rfl, rfl⟩ := h4
    simp only [hcs, hbeq, if_true]
 | exit m => obtain ⟨K', i, q1, _⟩ := h3; simp [exitKt] at q1
 | ret =>
  exfalso
  have e1 : (fr1, S1) = (fr3, S3) := h3
  obtain ⟨u, hu⟩ := PV_ne (fr1 0)
  have hk : gval T [.ops [⟨some 0, .mov (.cst u), none⟩]] fr1 S1 = some (upd fr1 0 u, S1) := by
   rw [gval_op]
   simp only [stepV, pstep, peval, ev, withSt, Option.bind_some, updO]
   rw [gval_ops_nil, gval_nil]
  obtain ⟨j', e', fr2', S2', fr3', S3', q', k1, k2, k3⟩ := dec _ _ hk
  have a1 := pops_le (pcall_le T (Nat.le_max_left j j')) h1
  have a2 := pops_le (pcall_le T (Nat.le_max_right j j')) k1
  rw [a1] at a2; cases a2
  have b1 := pcode_le (pcall_le T (Nat.le_max_left j j')) (Nat.le_max_left j j') h2
  have b2 := pcode_le (pcall_le T (Nat.le_max_right j j')) (Nat.le_max_right j j') k2
  rw [b1] at b2; cases b2
  have e2 : (upd fr1 0 u, S1) = (fr3, S3) := k3
  rw [← e1] at e2
  have e3 := congrFun (congrArg Prod.fst e2) 0
  simp [upd] at e3
  exact hu e3

theorem rgTo_run {T : Tbl} {id : Nat} {cs : List PV} {en : Nat} {post : List POper} {l : List (Nat × Nat)} {b : PCode} (hbeq : PV.beqL cs cs = true) : ∀ {p : List (PV × PV)} {fr : Fr} {S : St} {r : Fr × St}, RgTo T id cs en post l b p fr S r →
  ∃ j, rngRun (rngIt T (pcall T j) (fun fr S => pcode T (pcall T j) j b fr S) id cs en post l) p fr S = some r
 | [], fr, S, r, h => ⟨0, by rw [show r = (fr, S) from h]; rfl⟩
 | (k, v) :: p, fr, S, r, h => by
  obtain ⟨fr1, S1, h1, h2, h3⟩ := h
  obtain ⟨i, hi⟩ := rngIt_of hbeq h1 h2
  obtain ⟨j, hj⟩ := rgTo_run hbeq h3
  have up : ∀ {a c : Nat}, a ≤ c → ∀ k v fr S r, rngIt T (pcall T a) (fun fr S => pcode T (pcall T a) a b fr S) id cs en post l k v fr S = some r → rngIt T (pcall T c) (fun fr S => pcode T (pcall T c) c b fr S) id cs en post l k v fr S = some r :=
   fun h k v fr S r e => rngIt_le (pcall_le T h) (fun _ _ _ e => pcode_le (pcall_le T h) h e) e
  refine ⟨max i j, ?_⟩
  simp only [rngRun]
  rw [up (Nat.le_max_left i j) _ _ _ _ _ hi]
  exact rngRun_le (up (Nat.le_max_right i j)) hj

section
variable {T : Tbl} {K : List Kt} {fr : Fr} {S : St}
theorem gval_rng {pre : List POper} {x : Opd} {en : Nat} {post : List POper} {l : List (Nat × Nat)} {b : PCode} : gval T (.code (.rng pre x en post l b) :: K) fr S = gval T (.ops pre :: .rg x en post l b :: K) fr S := gval_step fun _ => rfl

theorem gval_rg {x : Opd} {en : Nat} {post : List POper} {l : List (Nat × Nat)} {b : PCode} {id : Nat} {cs : List PV} {r : Fr × St} (hbeq : PV.beqL cs cs = true) (hx : ev fr x = .map id) (hcs : S.objs[id]? = some cs)
  (h : ∀ p : List (PV × PV), p.Perm (entsOf cs) → RgTo T id cs en post l b p (clrs l fr) S r) : gval T (.rg x en post l b :: K) fr S = gval T K r.1 r.2 := by
 have up : ∀ {a c : Nat}, a ≤ c → ∀ k v fr S r, rngIt T (pcall T a) (fun fr S => pcode T (pcall T a) a b fr S) id cs en post l k v fr S = some r → rngIt T (pcall T c) (fun fr S => pcode T (pcall T c) c b fr S) id cs en post l k v fr S = some r :=
  fun h k v fr S r e => rngIt_le (pcall_le T h) (fun _ _ _ e => pcode_le (pcall_le T h) h e) e
 obtain ⟨j, hj⟩ := all_fuel (F := fun j (p : List (PV × PV)) => p.Perm (entsOf cs) → rngRun (rngIt T (pcall T j) (fun fr S => pcode T (pcall T j) j b fr S) id cs en post l) p (clrs l fr) S = some r)
  (fun a c p hac hp hq => rngRun_le (up hac) (hp hq)) (permsL (entsOf cs)) (fun p _ => by
   by_cases hp : p.Perm (entsOf cs)
   ·obtain ⟨j, hj⟩ := rgTo_run hbeq (h p hp)
    exact ⟨j, fun _ => hj⟩
   ·exact ⟨0, fun hq => absurd hq hp⟩)
 have hr : rngRest T (pcall T j) (fun fr S => pcode T (pcall T j) j b fr S) x en post l fr S = some r := by
  unfold rngRest
  rw [hx]
  simp only [hcs]
  exact rngAll_some.2 fun p hp => hj p (mem_permsL hp) hp
 have upr : ∀ {a c : Nat} {r : Fr × St}, a ≤ c → rngRest T (pcall T a) (fun fr S => pcode T (pcall T a) a b fr S) x en post l fr S = some r → rngRest T (pcall T c) (fun fr S => pcode T (pcall T c) c b fr S) x en post l fr S = some r :=
  fun h e => rngRest_le (pcall_le T h) (fun _ _ _ e => pcode_le (pcall_le T h) h e) e
 refine lim_eq (mono_kmach T _ fr S) fun y => ?_
 rw [gval_some]
 constructor
 ·rintro ⟨k, e⟩
  cases k with
  | zero => simp [kmach] at e
  | succ k =>
   simp only [kmach] at e
   cases hk : rngRest T (pcall T k) (fun fr S => pcode T (pcall T k) k b fr S) x en post l fr S with
   | none => rw [hk] at e; cases e
   | some q =>
    have e1 := upr (Nat.le_max_left k j) hk
    have e2 := upr (Nat.le_max_right k j) hr
    rw [e1] at e2; cases e2
    rw [hk] at e
    exact ⟨k, e⟩
 ·rintro ⟨k, e⟩
  refine ⟨max k j + 1, ?_⟩
  simp only [kmach]
  rw [upr (Nat.le_max_right k j) hr]
  exact kmach_le T (Nat.le_max_left k j) e

end
theorem cval_code {T : Tbl} {f : Nat} (c : PCodeFn) {args : List PV} {S : St} {x : PV × St} (hf : T.fn f = some (.code c)) (ha : args.length = c.params)
  (h : ((gval T [.code c.body] (argsFr args) S).bind fun y => (resAll y.1 y.2 c.results).map fun vs => finish c.raw S y.2 (packed vs)) = some x) : cval T f args S = some x := by
 cases hg : gval T [.code c.body] (argsFr args) S with
 | none => rw [hg] at h; cases h
 | some y =>
  obtain ⟨fr', S1⟩ := y
  rw [hg] at h
  simp only [Option.bind_some] at h
  cases hr : resAll fr' S1 c.results with
  | none => rw [hr] at h; cases h
  | some vs =>
   rw [hr] at h
   simp only [Option.map_some, Option.some.injEq] at h
   obtain ⟨k, hk⟩ := gval_some.1 hg
   obtain ⟨e, fr1, S2, h1, h2⟩ := kmach_code T k c.body [] (argsFr args) S _ hk
   refine cval_of (k + 1) ?_
   simp only [pcall, hf, ha, if_true, h1]
   cases e with
   | norm =>
    obtain ⟨i, hi, h3⟩ := h2
    cases i with
    | zero => simp [kmach] at h3
    | succ i =>
     simp only [kmach, Option.some.injEq, Prod.mk.injEq] at h3
     obtain ⟨rfl, rfl⟩ := h3
     simp only [hr, h]
   | exit m => obtain ⟨K', i, q1, _⟩ := h2; simp [exitKt] at q1
   | ret =>
    have : (fr', S1) = (fr1, S2) := h2
    cases this
    simp only [hr, h]
end Ps
