/- Calls that may come to this or to that, and panics: code, ranges over maps, functions. -/
import Derived.Test.YtidloidlffjimaaSimW
namespace Ps
set_option linter.unusedVariables false
set_option linter.unusedSimpArgs false
open Go
open Go.RowKit (Below)
inductive Wx where
 | norm
 | exit (n : Nat)
 | ret
 | pan (v : PV)

section
variable {X : Tie} {g : Gh} {w : World} {n : Dn} {fr : Fr} {a : Act} {S : St}
def WPost (X : Tie) (n : Dn) (g : Gh) (w : World) (Post : Wx → Fr → St → Prop) : Exit → Act → World → Prop
 | .normal, a', w' => ∃ g' fr' S', Le g w g' w' ∧ SR X g' S' w' ∧ FR X n g' w' fr' a' ∧ Post .norm fr' S'
 | .exit m, a', w' => ∃ g' fr' S', Le g w g' w' ∧ SR X g' S' w' ∧ FR X n g' w' fr' a' ∧ Post (.exit m) fr' S'
 | .ret, a', w' => ∃ g' fr' S', Le g w g' w' ∧ SR X g' S' w' ∧ FR X n g' w' fr' a' ∧ Post .ret fr' S'
 | .panic ch, a', w' => ∃ g' fr' S' v u, ch = [{ v := u, recovered := false }] ∧ Le g w g' w' ∧ SR X g' S' w' ∧ FR X n g' w' fr' a' ∧ VR X g' w' v u ∧ Post (.pan v) fr' S'
 | _, _, _ => False

theorem WPost.le {g1 : Gh} {w1 : World} (h : Le g w g1 w1) {Post Post' : Wx → Fr → St → Prop} (hp : ∀ e fr S, Post e fr S → Post' e fr S) : ∀ x a' w', WPost X n g1 w1 Post x a' w' → WPost X n g w Post' x a' w'
 | .normal, _, _, ⟨g', fr', S', h1, h2, h3, h4⟩ => ⟨g', fr', S', h.trans h1, h2, h3, hp _ _ _ h4⟩
 | .exit _, _, _, ⟨g', fr', S', h1, h2, h3, h4⟩ => ⟨g', fr', S', h.trans h1, h2, h3, hp _ _ _ h4⟩
 | .ret, _, _, ⟨g', fr', S', h1, h2, h3, h4⟩ => ⟨g', fr', S', h.trans h1, h2, h3, hp _ _ _ h4⟩
 | .panic _, _, _, ⟨g', fr', S', v, u, h0, h1, h2, h3, h4, h5⟩ => ⟨g', fr', S', v, u, h0, h.trans h1, h2, h3, h4, hp _ _ _ h5⟩
 | .goto _, _, _, h => h
 | .outgrown, _, _, h => h

def itOf : List (Nat × Nat) → Nat
 | (a, _) :: _ => a
 | [] => 0

def chkRngW (X : Tie) (n : Nat) (chk : Code → Bool) (c : Code) (pre : List POper) (x : Opd) (en : Nat) (post : List POper) (l : List (Nat × Nat)) : Bool :=
 match c with
 | .seq (.region _ ops5 false) (.block m (.loop (.seq (.region _ ops6 false) (.seq (.cond (.tmp ok) .skip (.exit m')) (.block _ (.seq (.region _ ops7 false) B)))))) =>
  (match ops5.toList.getLast?, ops6.toList, ops7.toList with
  | some o5, [o6, o6b], o7 :: r7 => (match o5.dst, o5.op, o6.dst, o6.op, o6b.op, o7.op with
   | some it, .range t xo, some nx, .next (.tmp it1) false, .extract (.tmp nx1) 0, .entry (.tmp it2) =>
    o5.guard.isNone && o6.guard.isNone && o6b.guard.isNone && o7.guard.isNone && o6b.dst == some ok && o7.dst == some en && it1 == it && it2 == it && nx1 == nx && m' == m &&
    chkOpers X n ops5 ops5.toList.dropLast pre && chkOpd X xo x && isMapT X.P t && chkOpers X n ops7 r7 post && chk B && it == itOf l && pre.all (fun p => !isW p.op) && post.all (fun p => !isW p.op) &&
    decide (it < n) && decide (nx < n) && decide (ok < n) && decide (en < n) && inL it l && inL nx l && inL ok l &&
    it != en && it != nx && it != ok && nx != ok
   | _, _, _, _, _, _ => false)
  | _, _, _ => false)
 | _ => false

def chkCodeW (X : Tie) (n : Nat) : Code → PCode → Bool
 | .skip, .skip => true
 | .ret, .ret => true
 | .exit m, .exit k => m == k
 | .region id ops draw, .region ps => if ps.any (fun p => isW p.op) then (if draw then drawW X n ops ps else chkOpers X n ops ops.toList ps) else chkCode X n (.region id ops draw) (.region ps)
 | .seq a b, .seq c d => chkCodeW X n a c && chkCodeW X n b d
 | .cond c t e, .cond c' t' e' => chkOpd X c c' && chkCodeW X n t t' && chkCodeW X n e e'
 | .block m b, .block k c => m == k && chkCodeW X n b c
 | .loop b, .loop c => chkCodeW X n b c
 | .scope b, .scope c => chkCodeW X n b c
 | .label _, .skip => true
 | c, .clr _ b => chkCodeW X n c b
 | c, .rng pre x en post l b => chkRngW X n (fun B => chkCodeW X n B b) c pre x en post l
 | _, _ => false

def W (X : Tie) (pc : PCode) (fr : Fr) (S : St) (Post : Wx → Fr → St → Prop) : Prop :=
 ∀ (n : Dn) (c : Code), chkCodeW X n c pc = true → ∀ (g : Gh) (w : World) (a : Act), SR X g S w → FR X n g w fr a → c.wp X.P (WPost X n g w Post) a w

theorem W.mono {pc : PCode} {Post Post' : Wx → Fr → St → Prop} (h : W X pc fr S Post) (hp : ∀ e fr S, Post e fr S → Post' e fr S) : W X pc fr S Post' :=
 fun n c hc g w a hS hF => wp_mono (h n c hc g w a hS hF) (WPost.le (Le.refl g w) hp)

theorem W_skip {Post : Wx → Fr → St → Prop} (h : Post .norm fr S) : W X .skip fr S Post := by
 intro n c hc g w a hS hF
 cases c <;> simp only [chkCodeW] at hc <;> try (cases hc; done)
 ·exact wp_skip ⟨g, fr, S, Le.refl g w, hS, hF, h⟩
 ·exact wp_label ⟨g, fr, S, Le.refl g w, hS, hF, h⟩

theorem W_ret {Post : Wx → Fr → St → Prop} (h : Post .ret fr S) : W X .ret fr S Post := by
 intro n c hc g w a hS hF
 cases c <;> simp only [chkCodeW] at hc <;> try (cases hc; done)
 exact wp_ret ⟨g, fr, S, Le.refl g w, hS, hF, h⟩

theorem W_region (hX : TieOk X) {ps : List POper} {Post : Wx → Fr → St → Prop} (h : wops X ps fr S (fun r => match r with | .norm fr' S' => Post .norm fr' S' | .pan v S' => Post (.pan v) (forget ps fr) S')) : W X (.region ps) fr S Post := by
 intro n c hc g w a hS hF
 cases c <;> simp only [chkCodeW] at hc <;> try (cases hc; done)
 rename_i id ops draw
 split at hc
 ·rename_i hw
  have q1 : ∀ g' w' a' fr' S', Le g w g' w' → SR X g' S' w' → FR X n g' w' fr' a' → Post .norm fr' S' → WPost X n g w Post .normal a' w' := fun g' w' a' fr' S' h1 h2 h3 h4 => ⟨g', fr', S', h1, h2, h3, h4⟩
  have q2 : ∀ g' w' a' v S' u, Le g w g' w' → SR X g' S' w' → FR X n g' w' (forget ps fr) a' → VR X g' w' v u → Post (.pan v) (forget ps fr) S' → WPost X n g w Post (.panic [{ v := u, recovered := false }]) a' w' :=
   fun g' w' a' v S' u h1 h2 h3 h4 h5 => ⟨g', _, S', v, u, rfl, h1, h2, h3, h4, h5⟩
  cases draw with
  | true =>
   simp only [if_true] at hc
   exact draw_simW hX hc hS hF h q1 q2 id
  | false =>
   simp only [Bool.false_eq_true, if_false] at hc
   exact wp_region_list (list_simW hX (fp := forget ps fr) _ _ g w fr S a hc hS hF (forget_weak _ _) (fun p hp => forget_dst hp) h q1 q2)
 ·rename_i hw
  have hnw : ∀ p ∈ ps, isW p.op = false := fun p hp => by
   cases hq : isW p.op with
   | false => rfl
   | true => exact absurd (List.any_eq_true.2 ⟨p, hp, hq⟩) hw
  have h' : wops X (ps ++ []) fr S (fun r => match r with | .norm fr' S' => Post .norm fr' S' | .pan v S' => Post (.pan v) (forget ps fr) S') := by rw [List.append_nil]; exact h
  obtain ⟨fr1, S1, h1, h2⟩ := (wops_pops hnw).1 h'
  refine (code_sim hX.ty hX.meth (cval_ok hX) hX.mixed n 1).1 _ (.region ps) fr S .norm fr1 S1 g w a _ hc hS hF (by simp only [pcode, h1]) (fun g' w' a' k1 k2 k3 => ?_)
  exact ⟨g', fr1, S1, k1, k2, k3, h2⟩

theorem W_seq {p q : PCode} {Post : Wx → Fr → St → Prop} (h : W X p fr S (fun e fr' S' => match e with | .norm => W X q fr' S' Post | e => Post e fr' S')) : W X (.seq p q) fr S Post := by
 intro n c hc g w a hS hF
 cases c <;> simp only [chkCodeW] at hc <;> try (cases hc; done)
 rename_i c1 c2
 rw [Bool.and_eq_true] at hc
 refine wp_seq (wp_mono (h n c1 hc.1 g w a hS hF) fun e a' w' he => ?_)
 cases e with
 | normal =>
  obtain ⟨g', fr', S', k1, k2, k3, k4⟩ := he
  exact wp_mono (k4 n c2 hc.2 g' w' a' k2 k3) (WPost.le k1 (fun _ _ _ h => h))
 | exit m => exact he
 | ret => exact he
 | panic ch => exact he
 | goto l => exact he
 | outgrown => exact he

theorem W_cond {x : Opd} {p q : PCode} {b : Bool} {Post : Wx → Fr → St → Prop} (hx : ev fr x = .bool b) (h : W X (if b then p else q) fr S Post) : W X (.cond x p q) fr S Post := by
 intro n c hc g w a hS hF
 cases c <;> simp only [chkCodeW] at hc <;> try (cases hc; done)
 rename_i co c1 c2
 simp only [Bool.and_eq_true] at hc
 obtain ⟨⟨h1, h2⟩, h3⟩ := hc
 have r := opd_sim hF h1
 rw [hx] at r
 generalize hu : a.eval co = u at r
 cases r
 cases b with
 | true => exact wp_cond_true hu (h n c1 h2 g w a hS hF)
 | false => exact wp_cond_false hu (h n c2 h3 g w a hS hF)

theorem W_clr {l : List (Nat × Nat)} {p : PCode} {Post : Wx → Fr → St → Prop} (h : W X p fr S (fun e fr' S' => match e with | .norm => Post .norm (clrs l fr') S' | e => Post e fr' S')) : W X (.clr l p) fr S Post := by
 intro n c hc g w a hS hF
 have hc' : chkCodeW X n c p = true := by cases c <;> exact hc
 refine wp_mono (h n c hc' g w a hS hF) fun e a' w' he => ?_
 cases e with
 | normal =>
  obtain ⟨g', fr', S', k1, k2, k3, k4⟩ := he
  exact ⟨g', _, S', k1, k2, k3.clrs l, k4⟩
 | exit m => exact he
 | ret => exact he
 | panic ch => exact he
 | goto l => exact he
 | outgrown => exact he

def InLoop (P : Program) (c : Code) (Q : Exit → Act → World → Prop) (a : Act) (w : World) : Prop :=
 ∀ (b : Frame) (k : List Item) (cs : List Frame), ∃ e a' w', Q e a' w' ∧ Arrives P (lone (b.at a (.code c :: .inLoop c :: k)) cs w) b k cs e a' w'

theorem wp_loop_in {P : Program} {c : Code} {Q : Exit → Act → World → Prop} {a : Act} {w : World} (h : InLoop P c Q a w) : (Code.loop c).wp P Q a w := fun b k cs => by
 obtain ⟨e, a', w', hq, harr⟩ := h b k cs
 exact ⟨e, a', w', hq, .of_steps (.one step_loop) harr⟩

theorem inLoop_round {P : Program} {c : Code} {Q : Exit → Act → World → Prop} {a : Act} {w : World} (h : c.wp P (Exit.then (InLoop P c Q) Q) a w) : InLoop P c Q a w := fun b k cs => by
 obtain ⟨e, a₁, w₁, hq, harr⟩ := h b (.inLoop c :: k) cs
 cases e with
 | normal =>
  obtain ⟨e₂, a₂, w₂, hq₂, harr₂⟩ := hq b k cs
  exact ⟨e₂, a₂, w₂, hq₂, .of_steps (Steps.trans harr (.one step_inLoop)) harr₂⟩
 | exit id => exact ⟨_, a₁, w₁, hq, .pass (x := .inLoop c) rfl (fun _ _ => .inl (by simp)) harr⟩
 | goto l => exact ⟨_, a₁, w₁, hq, .pass (x := .inLoop c) rfl (fun _ _ => .inl (by simp)) harr⟩
 | ret => exact ⟨_, a₁, w₁, hq, .pass (x := .inLoop c) rfl (fun _ _ => .inl (by simp)) harr⟩
 | panic ch => exact ⟨_, a₁, w₁, hq, .pass (x := .inLoop c) rfl (fun _ _ => .inl (by simp)) harr⟩
 | outgrown => exact ⟨_, a₁, w₁, hq, .pass (x := .inLoop c) rfl (fun _ _ => .inl (by simp)) harr⟩

theorem InLoop.mono {P : Program} {c : Code} {Q Q' : Exit → Act → World → Prop} {a : Act} {w : World} (h : InLoop P c Q a w) (hq : ∀ e a w, Q e a w → Q' e a w) : InLoop P c Q' a w := fun b k cs => by
 obtain ⟨e, a', w', h1, h2⟩ := h b k cs
 exact ⟨e, a', w', hq _ _ _ h1, h2⟩

def WL (X : Tie) (pc : PCode) (fr : Fr) (S : St) (Post : Wx → Fr → St → Prop) : Prop :=
 ∀ (n : Dn) (c : Code), chkCodeW X n c pc = true → ∀ (g : Gh) (w : World) (a : Act), SR X g S w → FR X n g w fr a → InLoop X.P c (WPost X n g w Post) a w

end
end Ps
