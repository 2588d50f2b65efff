/- Walking code whose calls may come to this or to that. -/
import Derived.Test.YtidloidlffjimaaSimY
import Derived.Test.YtidloidlffjimaaOk
namespace Ps
set_option linter.unusedVariables false
set_option linter.unusedSimpArgs false
open Go
def plainC : PCode → Bool
 | .skip => true
 | .exit _ => true
 | .region ps => !ps.any (fun p => isW p.op)
 | .seq a b => plainC a && plainC b
 | .cond _ a b => plainC a && plainC b
 | .block _ b => plainC b
 | .loop b => plainC b
 | .scope b => plainC b
 | .clr _ b => plainC b
 | _ => false

theorem plain_noret {T : Tbl} {call : CallP} : ∀ {k : Nat} {c : PCode} {fr fr' : Fr} {S S' : St} {e : Ex}, plainC c = true → pcode T call k c fr S = some (e, fr', S') → e ≠ .ret := by
 intro k
 induction k with
 | zero => intro c fr fr' S S' e _ h; simp [pcode] at h
 | succ k ih =>
  intro c fr fr' S S' e hp h
  cases c with
  | skip => simp only [pcode] at h; cases h; simp
  | ret => simp [plainC] at hp
  | bad => simp [plainC] at hp
  | rng => simp [plainC] at hp
  | exit m => simp only [pcode] at h; cases h; simp
  | region ps =>
   simp only [pcode] at h
   split at h
   ·cases h; simp
   ·cases h
  | seq a b =>
   simp only [plainC, Bool.and_eq_true] at hp
   simp only [pcode] at h
   split at h
   ·exact ih hp.2 h
   ·exact ih hp.1 h
  | cond x a b =>
   simp only [plainC, Bool.and_eq_true] at hp
   simp only [pcode] at h
   split at h
   ·exact ih hp.1 h
   ·exact ih hp.2 h
   ·cases h
  | block m b =>
   simp only [plainC] at hp
   simp only [pcode] at h
   split at h
   ·split at h <;> cases h <;> simp
   ·exact ih hp h
  | loop b =>
   have hp' := hp
   simp only [plainC] at hp
   simp only [pcode] at h
   split at h
   ·exact ih hp' h
   ·exact ih hp h
  | scope b => simp only [plainC] at hp; simp only [pcode] at h; exact ih hp h
  | clr l b =>
   simp only [plainC] at hp
   simp only [pcode] at h
   split at h
   ·cases h; simp
   ·exact ih hp h

theorem chk_plain {X : Tie} {n : Nat} : ∀ {pc : PCode} {c : Code}, plainC pc = true → chkCodeW X n c pc = true → chkCode X n c pc = true
 | .skip, c, _, h => by cases c <;> simp_all [chkCodeW, chkCode]
 | .exit m, c, _, h => by cases c <;> simp_all [chkCodeW, chkCode]
 | .region ps, c, hp, h => by
  cases c <;> simp only [chkCodeW] at h <;> try (cases h; done)
  simp only [plainC, Bool.not_eq_true'] at hp
  rw [hp] at h
  simpa using h
 | .seq a b, c, hp, h => by
  cases c <;> simp only [chkCodeW] at h <;> try (cases h; done)
  simp only [plainC, Bool.and_eq_true] at hp h
  simp only [chkCode, Bool.and_eq_true]
  exact ⟨chk_plain hp.1 h.1, chk_plain hp.2 h.2⟩
 | .cond x a b, c, hp, h => by
  cases c <;> simp only [chkCodeW] at h <;> try (cases h; done)
  simp only [plainC, Bool.and_eq_true] at hp h
  simp only [chkCode, Bool.and_eq_true]
  exact ⟨⟨h.1.1, chk_plain hp.1 h.1.2⟩, chk_plain hp.2 h.2⟩
 | .block m b, c, hp, h => by
  cases c <;> simp only [chkCodeW] at h <;> try (cases h; done)
  simp only [plainC] at hp
  simp only [Bool.and_eq_true] at h
  simp only [chkCode, Bool.and_eq_true]
  exact ⟨h.1, chk_plain hp h.2⟩
 | .loop b, c, hp, h => by
  cases c <;> simp only [chkCodeW] at h <;> try (cases h; done)
  simp only [plainC] at hp
  simp only [chkCode]
  exact chk_plain hp h
 | .scope b, c, hp, h => by
  cases c <;> simp only [chkCodeW] at h <;> try (cases h; done)
  simp only [plainC] at hp
  simp only [chkCode]
  exact chk_plain hp h
 | .clr l b, c, hp, h => by
  simp only [plainC] at hp
  have h' : chkCodeW X n c b = true := by cases c <;> exact h
  have := chk_plain hp h'
  cases c <;> exact this
 | .ret, _, hp, _ => by simp [plainC] at hp
 | .bad, _, hp, _ => by simp [plainC] at hp
 | .rng .., _, hp, _ => by simp [plainC] at hp

section
variable {X : Tie} {fr : Fr} {S : St}
theorem W_det (hX : TieOk X) {c : PCode} {Post : Wx → Fr → St → Prop} (hp : plainC c = true) (h : Ok (gval X.T [.code c] fr S) (Post .norm)) : W X c fr S Post := by
 obtain ⟨⟨fr', S'⟩, h1, h2⟩ := h
 obtain ⟨k, hk⟩ := gval_some.1 h1
 obtain ⟨e, fr1, S1, h3, h4⟩ := kmach_code X.T k c [] fr S _ hk
 have hne := plain_noret hp h3
 have he : e = .norm ∧ fr1 = fr' ∧ S1 = S' := by
  cases e with
  | norm =>
   obtain ⟨i, hi, h5⟩ := h4
   cases i with
   | zero => simp [kmach] at h5
   | succ i =>
    simp only [kmach, Option.some.injEq, Prod.mk.injEq] at h5
    exact ⟨rfl, h5.1, h5.2⟩
  | exit m => obtain ⟨K', i, q1, _⟩ := h4; simp [exitKt] at q1
  | ret => exact absurd rfl hne
 obtain ⟨rfl, rfl, rfl⟩ := he
 intro n c' hc g w a hS hF
 exact (code_sim hX.ty hX.meth (pcall_ok hX k) hX.mixed n k).1 c' c fr S .norm fr1 S1 g w a _ (chk_plain hp hc) hS hF h3 (fun g' w' a' k1 k2 k3 => ⟨g', fr1, S1, k1, k2, k3, h2⟩)

theorem ops_pops {T : Tbl} {l : List POper} {fr fr' : Fr} {S S' : St} (h : gval T [.ops l] fr S = some (fr', S')) : pops T (cval T) l fr S = some (fr', S') := by
 obtain ⟨k, hk⟩ := gval_some.1 h
 obtain ⟨fr1, S1, i, h1, h2, h3⟩ := kmach_ops T l k [] fr S _ hk
 cases i with
 | zero => simp [kmach] at h3
 | succ i =>
  simp only [kmach, Option.some.injEq, Prod.mk.injEq] at h3
  obtain ⟨rfl, rfl⟩ := h3
  exact pops_le (pcall_cle T k) h1

theorem pops_ok {T : Tbl} {l : List POper} {fr : Fr} {S : St} {P : Fr → St → Prop} (h : Ok (gval T [.ops l] fr S) P) : ∃ fr' S', pops T (cval T) l fr S = some (fr', S') ∧ P fr' S' := by
 obtain ⟨⟨fr', S'⟩, h1, h2⟩ := h
 exact ⟨fr', S', ops_pops h1, h2⟩

theorem wops_pre {l l2 : List POper} {Q : Wo → Prop} (hp : l.all (fun p => !isW p.op) = true) (h : Ok (gval X.T [.ops l] fr S) (fun fr1 S1 => wops X l2 fr1 S1 Q)) : wops X (l ++ l2) fr S Q := by
 obtain ⟨fr1, S1, h1, h2⟩ := pops_ok h
 exact (wops_pops (fun p hpm => by have := List.all_eq_true.1 hp p hpm; simpa using this)).2 ⟨fr1, S1, h1, h2⟩

theorem wops_end {l : List POper} {Q : Wo → Prop} (hp : l.all (fun p => !isW p.op) = true) (h : Ok (gval X.T [.ops l] fr S) (fun fr1 S1 => Q (.norm fr1 S1))) : wops X l fr S Q := by
 have := wops_pre (X := X) (l2 := []) (Q := Q) hp h
 rwa [List.append_nil] at this

theorem wops_wc {d : Option Nat} {ks : List Nat} {x : Opd} {args : List Opd} {l : List POper} {Q : Wo → Prop} {f : Nat} {aq : List PV} {R : Rs → Prop} (hc : wcallee fr x args = some (f, aq)) (hs : WSpec X f aq S R)
  (hr : ∀ v S', R (.ret v S') → keptAt fr ks S S' ∧ wops X l (updO fr d v) S' Q) (hp : ∀ v S', R (.pan v S') → Q (.pan v S')) : wops X (⟨d, .wc ks x args, none⟩ :: l) fr S Q := by
 simp only [wops, wantedP]
 exact ⟨f, aq, R, hc, hs, hr, hp⟩

theorem W_seq_det (hX : TieOk X) {p q : PCode} {Post : Wx → Fr → St → Prop} (hp : plainC p = true) (h : Ok (gval X.T [.code p] fr S) (fun fr' S' => W X q fr' S' Post)) : W X (.seq p q) fr S Post :=
 W_seq (W_det hX hp h)

theorem W_ret_det (hX : TieOk X) {p : PCode} {Post : Wx → Fr → St → Prop} (hp : plainC p = true) (h : Ok (gval X.T [.code p] fr S) (Post .ret)) : W X (.seq p .ret) fr S Post :=
 W_seq_det hX hp (h.mono fun _ _ k => W_ret k)

theorem W_test (hX : TieOk X) {p q r : PCode} {x : Opd} {Post : Wx → Fr → St → Prop} (hp : plainC p = true)
  (h : Ok (gval X.T [.code p] fr S) (fun fr' S' => ∃ b, ev fr' x = .bool b ∧ (b = true → W X q fr' S' (fun e fr2 S2 => match e with | .norm => W X r fr2 S2 Post | e => Post e fr2 S2)) ∧ (b = false → W X r fr' S' Post))) :
  W X (.seq (.seq p (.cond x q .skip)) r) fr S Post := by
 refine W_seq (W_seq (W_det hX hp (h.mono fun fr' S' k => ?_)))
 obtain ⟨b, e, k1, k2⟩ := k
 refine W_cond e ?_
 cases b with
 | true =>
  refine (k1 rfl).mono fun e fr2 S2 m => ?_
  cases e <;> exact m
 | false => exact W_skip (k2 rfl)

theorem RgW_succ {it en : Nat} {post : List POper} {l : List (Nat × Nat)} {b : PCode} {Post : Fr → St → Prop} {N : Nat} {rem : List (PV × PV)}
  (h : ∀ k v rem' r, rem.Perm ((k, v) :: rem') → Ok (gval X.T [.ops post] (upd (upd fr it (.hnd r)) en (.tup [k, v])) S) (fun fr2 S2 => W X b fr2 S2 (fun e fr3 S3 => e = .norm ∧ fr3 it = .hnd r ∧ RgW X it en post l b Post N rem' (clrs l fr3) S3))) :
  RgW X it en post l b Post (N + 1) rem fr S := by
 intro k v rem' r hp
 obtain ⟨fr2, S2, h1, h2⟩ := pops_ok (h k v rem' r hp)
 exact ⟨fr2, S2, h1, h2⟩

theorem SR.ghost {X : Tie} {g : Gh} {S : St} {w : World} (hS : SR X g S w) (x : List (List PV)) (y : List (Nat × Nat)) : SR X g ⟨S.objs ++ x, S.tips ++ y⟩ w := by
 have hob : ∀ {i : Nat} {c : List PV}, S.objs[i]? = some c → (S.objs ++ x)[i]? = some c := fun h => by rw [List.getElem?_append_left (List.getElem?_eq_some_iff.1 h).1]; exact h
 have hot : ∀ {i : Nat} {c : Nat × Nat}, S.tips[i]? = some c → (S.tips ++ y)[i]? = some c := fun h => by rw [List.getElem?_append_left (List.getElem?_eq_some_iff.1 h).1]; exact h
 obtain ⟨hij, hop⟩ := inj_of hS (S' := ⟨S.objs ++ x, S.tips ++ y⟩) (fun i b h => by simp only; rw [List.getElem?_append_left (obj_len hS i b h)])
 refine ⟨fun i b h => ?_, hij, hop, fun b id base h => ?_, fun id sz h => ?_, hS.lt, hS.maps.of (fun _ _ h => h) (fun i b h => ?_) (fun _ _ _ => rfl) (fun _ _ r => r) (fun _ _ _ => ⟨rfl, rfl⟩) (fun _ _ _ _ h => h)⟩
 ·obtain ⟨cs, us, t, h1, h2⟩ := hS.obj i b h
  exact ⟨cs, us, t, hob h1, h2⟩
 ·obtain ⟨sz, tip, h1, h2, h3, h4⟩ := hS.arr b id base h
  exact ⟨sz, tip, h1, h2, hot h3, h4⟩
 ·obtain ⟨tip, h1⟩ := hS.asz id sz h
  exact ⟨tip, hot h1⟩
 ·obtain ⟨cs, es, cl, h1, _⟩ := hS.maps.ent i b h
  simp only
  rw [List.getElem?_append_left (List.getElem?_eq_some_iff.1 h1).1]

theorem WSpec.ghost {X : Tie} {f : Nat} {args : List PV} {S : St} {R R' : Rs → Prop} (hs : WSpec X f args S R) (h : ∀ v S1, R (.ret v S1) → ∃ x y, R' (.ret v ⟨S1.objs ++ x, S1.tips ++ y⟩)) (hp : ∀ v S1, R (.pan v S1) → R' (.pan v S1)) : WSpec X f args S R' := by
 intro g w us hS hV
 refine ⟨(hs g w us hS hV).1, (hs g w us hS hV).2.mono fun e w' he => ?_⟩
 cases e with
 | returned u =>
  obtain ⟨v, S1, h1, g', h2, h3, h4⟩ := he
  obtain ⟨x, y, hr⟩ := h v S1 h1
  exact ⟨v, _, hr, g', h2, h3.ghost x y, h4⟩
 | panicked ch =>
  obtain ⟨v, S1, u, h0, h1, h2⟩ := he
  exact ⟨v, S1, u, h0, hp v S1 h1, h2⟩
 | outgrown => exact he

end
end Ps
