/- The disk: what a call of the law's does. -/
import Derived.Test.YtidloidlffjimaaDK
import Derived.Test.YtidloidlffjimaaDI
namespace Ps
set_option linter.unusedSimpArgs false
set_option linter.unusedVariables false
open Go
def crashK (D : Dk) (dirs : Int) : Nat := (IntKind.u64.wrap dirs).toNat % (D.wait.length + 1)
theorem crashK_le (D : Dk) (dirs : Int) : crashK D dirs ≤ D.wait.length := by
 have := Nat.mod_lt (IntKind.u64.wrap dirs).toNat (y := D.wait.length + 1) (by omega)
 unfold crashK; omega
def sortN (l : List (Nm × Nat)) : List Nm := (l.map (·.1)).mergeSort leB
def crashC (D : Dk) (dirs : Int) (kept : List Int) : (Nat → List UInt8) × (Nat → Nat) := cutS (dirAt D (crashK D dirs)) kept 0 (sortN (dirAt D (crashK D dirs))) D.fb D.fs
def crashD (D : Dk) (li' : Nat) (fv' : Nat → PV) (dirs : Int) (kept : List Int) : Dk :=
 { D with left := -1, dark := false, li := li', base := dirAt D (crashK D dirs), live := dirAt D (crashK D dirs), wait := [], wv := .nils, fb := (crashC D dirs kept).1, fs := (crashC D dirs kept).2, fv := fv' }

theorem sort_nil {l : List Nm} (h : l.isEmpty = true) : l.mergeSort leB = [] := by
 have : l = [] := by simpa using h
 subst this; simp
theorem namesV_reads (l : List (Nm × Nat)) : Reads1 1 (namesV l) ((sortN l).map .str) := by
 unfold namesV sortN
 split
 ·rename_i h; rw [sort_nil h]; exact reads_nils _
 ·exact reads_sl (fun e he => by obtain ⟨n, _, rfl⟩ := List.mem_map.1 he; rfl)
theorem sortN_len (l : List (Nm × Nat)) : (sortN l).length = l.length := by
 unfold sortN; rw [(List.mergeSort_perm _ _).length_eq]; simp
theorem mem_sortN {l : List (Nm × Nat)} {n : Nm} (h : n ∈ sortN l) : (lk n l).isSome = true := by
 have h2 : n ∈ l.map (·.1) := (List.mergeSort_perm _ _).mem_iff.1 h
 clear h
 induction l with
 | nil => simp at h2
 | cons p l ih =>
  obtain ⟨q, f⟩ := p
  simp only [lk]
  by_cases e : (n == q) = true
  ·simp [e]
  ·simp only [e, if_false]
   rcases List.mem_cons.1 h2 with h2 | h2
   ·exact absurd (by simp [h2]) e
   ·simpa using ih h2

theorem slc_wait {S : St} {v : PV} {w : List Ent} (h : SlT S 3 v (w.map entV)) {k : Nat} (hk : k ≤ w.length) : ∃ v', slcP 3 none (some (.int .u64 (k : Int))) v = some v' ∧ Reads1 3 v' ((w.take k).map entV) := by
 rcases h with ⟨rfl, hn⟩ | ⟨i, e, rfl, _⟩
 ·have : w = [] := by simpa using hn
  subst this
  have : k = 0 := by simpa using hk
  subst this
  exact ⟨.nils, rfl, reads_nils _⟩
 ·have hz : szOk 3 (w.map entV) = true := szOk_of (fun e he => by obtain ⟨x, _, rfl⟩ := List.mem_map.1 he; rfl)
  have hb := bounds_hi (len := (w.map entV).length) (cap := (w.map entV).length) (h := k) (k := .u64) (by simpa using hk)
  have hq : slcP 3 none (some (.int .u64 (k : Int))) (.sl (some (i, e)) (w.map entV) []) = some (.sl (if k = (w.map entV).length then some (i, e) else none) (((w.map entV).take k).drop 0) ((w.map entV).drop k)) := by
   simp only [slcP_sl, List.append_nil, hz, Bool.not_true, Bool.false_eq_true, if_false, List.length_nil, Nat.add_zero, hb]
  refine ⟨_, hq, ?_⟩
  rw [List.drop_zero, List.map_take]
  exact reads_sl (fun e he => by obtain ⟨x, _, rfl⟩ := List.mem_map.1 (List.mem_of_mem_take he); rfl)

theorem crash_val {S : St} {o K : Nat} {D : Dk} (h : At S o K D) (hK : K ≤ 1048570) {dirs : Int} {kept : List Int} {kv : PV} (hkv : Reads1 1 kv (kept.map (.int .i64))) :
  ∃ li' fv' S', cval T 80 [.ptr o 0, .int .i64 dirs, kv] S = some (.int .i64 0, S') ∧ At S' o K (crashD D li' fv' dirs kept) ∧ Fra o S S' D (crashD D li' fv' dirs kept) ∧ li' ≠ D.li := by
 have hob := h.obj
 simp only [dcells] at hob
 have hkle := crashK_le D dirs
 have hcnt := h.cnt
 have hwl : lenP false D.wv = some (.int .i64 D.wait.length) := by have := len_slt h.wv; simpa using this
 obtain ⟨v1, hv1, hr1⟩ := slc_wait h.wv hkle
 have hmod := u64_mod dirs D.wait.length
 have w1 : IntKind.i64.wrap ((D.wait.length : Int) + 1) = (D.wait.length : Int) + 1 := wrap_i64 (by omega) (by omega)
 have w2 : IntKind.u64.wrap ((D.wait.length : Int) + 1) = (D.wait.length : Int) + 1 := by rw [u64w]; omega
 have w3 : ¬ ((D.wait.length : Int) + 1 = 0) := by omega
 have hkk : crashK D dirs = (IntKind.u64.wrap dirs).toNat % (D.wait.length + 1) := rfl
 rw [← hkk] at hmod
 have hlen1 := hr1.len
 have htl : ((D.wait.take (crashK D dirs)).map entV).length = (D.wait.take (crashK D dirs)).length := by simp
 rw [htl] at hlen1
 have hdl := h.dirL (crashK D dirs)
 obtain ⟨l, hl⟩ : ∃ l, l = dirAt D (crashK D dirs) := ⟨_, rfl⟩
 obtain ⟨fin, hfin⟩ : ∃ fin : Nat → (Nat → PV) → Dk, fin = fun li' fv' => crashD D li' fv' dirs kept := ⟨_, rfl⟩
 have main : ∃ fr' S' li' fv', gval T [.code disk_Disk_Crash.body] (argsFr [.ptr o 0, .int .i64 dirs, kv]) S = some (fr', S') ∧ fr' 6 = .int .i64 0 ∧ At S' o K (fin li' fv') ∧ Fra o S S' D (fin li' fv') ∧ li' ≠ D.li := by
  suffices hs : Ok (gval T [.code disk_Disk_Crash.body] (argsFr [.ptr o 0, .int .i64 dirs, kv]) S) (fun fr' S' => ∃ li' fv', fr' 6 = .int .i64 0 ∧ At S' o K (fin li' fv') ∧ Fra o S S' D (fin li' fv') ∧ li' ≠ D.li) by
   obtain ⟨⟨fr', S'⟩, e, li', fv', q⟩ := hs
   exact ⟨fr', S', li', fv', e, q⟩
  obtain ⟨Q, hQ⟩ : ∃ Q : Fr → St → Prop, Q = (fun fr' S' => ∃ li' fv', fr' 6 = .int .i64 0 ∧ At S' o K (fin li' fv') ∧ Fra o S S' D (fin li' fv') ∧ li' ≠ D.li) := ⟨_, rfl⟩
  rw [← hQ]
  simp -implicitDefEqProofs [disk_Disk_Crash, loadP_ptr hob, hwl, w1, w2, w3, hmod, hv1, hlen1]
  refine crash_l0 h.nd.1 hr1 (by rw [List.length_take]; omega) (D.wait.take (crashK D dirs)) [] rfl D.base _ S (okA_take h.hist.okA.1 _) h.obj h.base (by simp) (by simp) (by simp) (by simp) ?_
  rintro fr1 S1 ⟨g0, g2⟩ ht1 hb1 hkeep1
  simp at g0 g2
  have hb1 : S1.objs[D.bi]? = some (mcells l) := by rw [hl]; exact hb1
  have ho1 := hkeep1 o _ h.nd.1 h.obj
  have hli1 := hkeep1 D.li _ (Ne.symm h.nd.2.2.1) h.live
  have hF1 : Fl S1 D := ⟨fun f hf => by
   obtain ⟨f1, f2, f3⟩ := h.file f hf
   exact ⟨hkeep1 f _ (h.nd.2.2.2 f hf).2.1 f1, f2.of (fun _ _ => by rw [ht1]), f3⟩, h.tf⟩
  have ho1' := ho1
  simp only [dcells] at ho1'
  have hkeys := keys_val ⟨_, hb1⟩
  have hsorted := sorted_val hb1 (by rw [hl]; omega) (by rw [hl]; exact h.dirN _)
  have hrd := namesV_reads l
  have hln := hrd.len
  have hml : ((sortN l).map PV.str).length = (sortN l).length := by simp
  rw [hml] at hln
  simp -implicitDefEqProofs [g0, g2, loadP_ptr ho1', hkeys, hsorted, hln]
  have ha : ∀ {i : Nat} {c : List PV}, S1.objs[i]? = some c → (S1.objs ++ [[PV.map D.bi]])[i]? = some c := fun hc => by rw [List.getElem?_append_left (List.getElem?_eq_some_iff.1 hc).1]; exact hc
  have hF1a : Fl ⟨S1.objs ++ [[.map D.bi]], S1.tips⟩ D := ⟨fun f hf => by
   obtain ⟨f1, f2, f3⟩ := hF1.file f hf
   exact ⟨ha f1, f2.of (fun _ _ => rfl), f3⟩, h.tf⟩
  refine crash_l1 (o := o) (l := l) hrd hkv (by rw [sortN_len, hl]; omega) (sortN l) [] rfl (fun n hn => mem_sortN hn) D _ _ (ha ho1) (ha hb1) hF1a (by rw [hl]; exact h.dirF _) (fun f hf => ⟨(h.nd.2.2.2 f hf).1, (h.nd.2.2.2 f hf).2.1⟩) h.rm.2 (by simp [g0]) (by simp [g2]) (by simp) (by simp) (by simp) ?_
  intro fr2 S2 fv2 q0 hF2 hkeep2 htl2 ht2 hown
  simp [g0] at q0
  have hob2 : S2.objs[o]? = some [.int .i64 D.room, .map D.bi, .map D.li, D.wv, .int .i64 D.left, .int .i64 D.done, .bool D.dark] := by
   rw [hkeep2 o (fun hf => (h.nd.2.2.2 o hf).1 rfl)]; exact ha ho1'
  have hb2 : S2.objs[D.bi]? = some (mcells l) := by rw [hkeep2 D.bi (fun hf => (h.nd.2.2.2 _ hf).2.1 rfl)]; exact ha hb1
  have hli2 : S2.objs[D.li]? = some (mcells D.live) := by rw [hkeep2 D.li (fun hf => (h.nd.2.2.2 _ hf).2.2 rfl)]; exact ha hli1
  have hcl : cval T 197 [.map D.bi] S2 = some (.map S2.objs.length, ⟨S2.objs ++ [mcells l], S2.tips⟩) := cval_exs fn_197 (by simp only [cloneP, hb2])
  have hob3 : (S2.objs ++ [mcells l])[o]? = some [.int .i64 D.room, .map D.bi, .map D.li, D.wv, .int .i64 D.left, .int .i64 D.done, .bool D.dark] := by
   rw [List.getElem?_append_left (List.getElem?_eq_some_iff.1 hob2).1]; exact hob2
  have hap : ∀ {i : Nat} {c : List PV}, S2.objs[i]? = some c → (S2.objs ++ [mcells l])[i]? = some c := fun hc => by rw [List.getElem?_append_left (List.getElem?_eq_some_iff.1 hc).1]; exact hc
  have lo := (List.getElem?_eq_some_iff.1 hob2).1
  have lb := (List.getElem?_eq_some_iff.1 hb2).1
  have ll := (List.getElem?_eq_some_iff.1 hli2).1
  have lf : ∀ f ∈ D.fl, f < S2.objs.length := fun f hf => (List.getElem?_eq_some_iff.1 (hF2.file f hf).1).1
  have hres : At ⟨(S2.objs ++ [mcells l]).set o [.int .i64 D.room, .map D.bi, .map S2.objs.length, .nils, .int .i64 (-1), .int .i64 D.done, .bool false], S2.tips⟩ o K (fin S2.objs.length fv2) := by
   rw [hfin]
   exact {
    obj := get_set hob3
    base := by
     show ((S2.objs ++ [mcells l]).set o _)[D.bi]? = _
     rw [List.getElem?_set_ne h.nd.1]
     simp only [crashD, ← hl]; exact hap hb2
    live := by
     show ((S2.objs ++ [mcells l]).set o _)[S2.objs.length]? = _
     rw [List.getElem?_set_ne (by omega)]
     simp only [crashD, ← hl]; simp
    wv := .inl ⟨rfl, rfl⟩
    file := fun f hf => by
     obtain ⟨f1, f2, f3⟩ := hF2.file f hf
     refine ⟨?_, ?_⟩
     ·show ((S2.objs ++ [mcells l]).set o _)[f]? = _
      rw [List.getElem?_set_ne (Ne.symm (h.nd.2.2.2 f hf).1)]
      have := hap f1
      rw [hl] at this ⊢
      exact this
     ·have q : _ ∧ _ := ⟨f2, f3⟩
      rw [hl] at q
      exact ⟨SlT.of q.1 (fun _ _ => rfl), q.2⟩
    inb := by simp only [crashD]; exact h.dirF _
    inw := fun x hx => by simp [crashD] at hx
    nd := ⟨h.nd.1, by simp only [crashD]; omega, by simp only [crashD]; omega, fun f hf => ⟨(h.nd.2.2.2 f hf).1, (h.nd.2.2.2 f hf).2.1, by have := lf f hf; simp only [crashD]; omega⟩⟩
    tw := fun f hf k hk => by simp [crashD, tid] at hk
    tf := hF2.tf
    hist := .nil (by simp only [crashD]; exact h.dirNd _)
    nb := by simp only [crashD]; exact h.dirN _
    nw := fun x hx => by simp [crashD] at hx
    rm := h.rm
    cnt := by simpa [crashD] using hdl
    dn := h.dn
    lf := ⟨by simp [crashD], by simp [crashD]⟩ }
  have hold : ∀ (i : Nat) (c : List PV), S.objs[i]? = some c → i ≠ o → ¬ OwnsO D i → S2.objs[i]? = some c := by
   intro i c hc hi hn
   rw [hkeep2 i (fun q => hn (.inr (.inr q)))]
   exact ha (hkeep1 i c (fun q => hn (.inl q)) hc)
  have hfra : ∀ d, Fra o S ⟨(S2.objs ++ [mcells l]).set o d, S2.tips⟩ D (fin S2.objs.length fv2) := by
   intro y
   have htt : ∀ i, i < S.tips.length → S2.tips[i]? = S.tips[i]? := fun i hi => by
    have := ht2 i (by simp only; rw [ht1]; exact hi)
    rw [this]; simp only; rw [ht1]
   have hge : S.tips.length ≤ S2.tips.length := by simp only at htl2; rw [ht1] at htl2; exact htl2
   refine ⟨⟨hge, fun k hk ho => ⟨?_, htt k hk⟩⟩, ⟨fun i c hc hi hn => by
    simp only
    rw [List.getElem?_set_ne (Ne.symm hi)]
    exact hap (hold i c hc hi hn), fun i hi hio hn => ?_⟩⟩
   rotate_left
   ·rw [hfin]
    obtain ⟨c, hc⟩ : ∃ c, S.objs[i]? = some c := ⟨_, List.getElem?_eq_getElem hi⟩
    have hlt := (List.getElem?_eq_some_iff.1 (hold i c hc hio hn)).1
    rintro (q | q | q)
    ·exact hn (.inl q)
    ·simp only [crashD] at q; omega
    ·exact hn (.inr (.inr q))
   rw [hfin]
   rintro (hq | ⟨g, hg, hq⟩)
   ·simp [crashD, tid] at hq
   ·rcases hown g hg k hq with hq | hq
    ·exact ho (.inr ⟨g, hg, hq⟩)
    ·simp only at hq; rw [ht1] at hq; omega
  have hend : ∀ fr' : Fr, fr' 6 = .int .i64 0 → Q fr' ⟨(S2.objs ++ [mcells l]).set o [.int .i64 D.room, .map D.bi, .map S2.objs.length, .nils, .int .i64 (-1), .int .i64 D.done, .bool false], S2.tips⟩ := by
   intro fr' h6
   rw [hQ]
   exact ⟨S2.objs.length, fv2, h6, hres, hfra _, by omega⟩
  clear hQ
  simp -implicitDefEqProofs [q0, loadP_ptr hob2, hcl, pstep, hob3, get_set hob3, putCells]
  exact hend _ (by simp)
 obtain ⟨fr', S', li', fv', e, h6, hA, hR, hne⟩ := main
 refine ⟨li', fv', S', cval_fn fn_80 rfl ?_, by rw [hfin] at hA; exact hA, by rw [hfin] at hR; exact hR, hne⟩
 rw [e]
 simp only [ob_some]
 have hres : resAll fr' S' disk_Disk_Crash.results = some [.int .i64 0] := by
  simp [disk_Disk_Crash, resAll, h6]
 rw [hres]
 simp only [ob_some, packed]
 congr 1
 rw [hfin] at hA
 refine fin_diff h.obj hA.obj ?_ (i := o) hA.obj h.lt.1 (dcells_free _)
 intro e
 simp only [dcells, crashD, List.cons.injEq, PV.map.injEq] at e
 exact hne e.2.2.1.symm
end Ps
namespace Ps
set_option linter.unusedSimpArgs false
set_option linter.unusedVariables false
open Go
theorem lt_nf {S : St} {o K : Nat} {D : Dk} (h : At S o K D) : S.objs.length ∉ D.fl := fun hf => by have := h.lt.2.2.2 _ hf; omega
theorem IsSl.hi {sz : Nat} {v : PV} {es : List PV} (h : IsSl sz v es) {hi : Nat} {j : IntKind} (hh : hi ≤ es.length) : ∃ v', slcP sz none (some (.int j (hi : Int))) v = some v' ∧ IsSl sz v' (es.take hi) := by
 rcases h with ⟨rfl, rfl⟩ | ⟨tip, sp, rfl, h⟩
 ·refine ⟨.nils, ?_, .inl ⟨rfl, by simp⟩⟩
  have : hi = 0 := by simpa using hh
  subst this
  rw [slcP_nils, bounds_hi (by omega)]
 ·refine ⟨.sl (if hi = es.length then tip else none) (((es ++ sp).take hi).drop 0) ((es ++ sp).drop hi), ?_, .inr ⟨if hi = es.length then tip else none, (es ++ sp).drop hi, ?_, ?_⟩⟩
  ·rw [slcP_sl, szOk_of h, bounds_hi (by omega)]; rfl
  ·rw [List.take_append_of_le_length hh, List.drop_zero]
  ·intro e he
   refine h e ?_
   rcases List.mem_append.1 he with he | he
   ·exact List.mem_append_left _ (List.mem_of_mem_take he)
   ·exact List.mem_of_mem_drop he
theorem bytesOf_oB (s : List UInt8) : bytesOf (ofBytes s) = some s := by
 induction s with
 | nil => rfl
 | cons b s ih =>
  show bytesOf (.int .u8 b.toNat :: ofBytes s) = _
  rw [bytesOf, ih]
  simp
def namesL (D : Dk) : List Nm := if D.dark then [] else sortN D.live
theorem listV_reads (D : Dk) : Reads1 1 (listV D) ((namesL D).map .str) := by
 unfold listV namesL
 split
 ·exact reads_nils 1
 ·exact namesV_reads _
theorem At.namesLen {S : St} {o K : Nat} {D : Dk} (h : At S o K D) : (namesL D).length ≤ K := by
 unfold namesL; split
 ·simp
 ·rw [sortN_len]; exact h.ll
theorem At.namesMax {S : St} {o K : Nat} {D : Dk} (h : At S o K D) : ∀ n ∈ namesL D, n.length ≤ maxLen := by
 intro n hn
 unfold namesL at hn; split at hn
 ·cases hn
 ·have h2 : n ∈ D.live.map (·.1) := (List.mergeSort_perm _ _).mem_iff.1 hn
  obtain ⟨p, hp, rfl⟩ := List.mem_map.1 h2
  exact Nat.le_trans (h.nl p hp) (by decide)
theorem At.owns {S : St} {o K : Nat} {D : Dk} (h : At S o K D) {k : Nat} (hk : Owns D k) : k < S.tips.length := by
 rcases hk with hk | ⟨f, hf, hk⟩
 ·exact h.wv.tip hk
 ·exact (h.file f hf).2.1.tip hk
theorem At.tips {S : St} {o K : Nat} {D : Dk} (h : At S o K D) {tips' : List (Nat × Nat)} (ht : ∀ k, Owns D k → tips'[k]? = S.tips[k]?) : At ⟨S.objs, tips'⟩ o K D where
 obj := h.obj
 base := h.base
 live := h.live
 wv := h.wv.of fun k hk => ht k (.inl hk)
 file := fun f hf => by
  obtain ⟨h1, h2, h3⟩ := h.file f hf
  exact ⟨h1, h2.of (fun k hk => ht k (.inr ⟨f, hf, hk⟩)), h3⟩
 inb := h.inb
 inw := h.inw
 nd := h.nd
 tw := h.tw
 tf := h.tf
 hist := h.hist
 nb := h.nb
 nw := h.nw
 rm := h.rm
 cnt := h.cnt
 dn := h.dn
 lf := h.lf
theorem At.more {S : St} {o K : Nat} {D : Dk} (h : At S o K D) (x : List (Nat × Nat)) : At ⟨S.objs, S.tips ++ x⟩ o K D := h.tips fun k hk => List.getElem?_append_left (h.owns hk)
def Free (D : Dk) : Prop := D.left = -1 ∧ D.dark = false
theorem Free.step {D : Dk} (h : Free D) : stepR D = 0 ∧ Free (stepD D) := by
 obtain ⟨h1, h2⟩ := h
 have hs : stepR D = 0 := by simp [stepR, h1, h2]
 refine ⟨hs, ?_⟩
 rw [stepD_ok hs]
 exact ⟨by simp [h1], h2⟩
end Ps
namespace Ps
set_option linter.unusedSimpArgs false
set_option linter.unusedVariables false
open Go
@[simp] theorem fin_rw {S S1 : St} {r : PV} : finish true S S1 r = (r, S1) := by simp [finish]
theorem fn_19 : T.fn 19 = some (.code law04_do) := rfl

structure ActD where
 kind : Int
 name : Nm
 to : Nm
 b : List UInt8
 bv : PV
 n : Int
 kept : List Int
 kv : PV
def actV (a : ActD) : PV := .agg [.int .i64 a.kind, .str a.name, .str a.to, a.bv, .int .i64 a.n, a.kv]
structure ActD.Wf (a : ActD) : Prop where
 name : a.name.length ≤ maxLen
 to : a.to.length ≤ maxLen
 len : lenP false a.bv = some (.int .i64 a.b.length)
 app : appended 1 a.bv = some (ofBytes a.b)
 kept : Reads1 1 a.kv (a.kept.map (.int .i64))
 n : a.n ≤ 9223372036854775807
 bone : a.bv.one = true
 kone : a.kv.one = true
 bcells : a.bv.cells = [a.bv]
 kcells : a.kv.cells = [a.kv]

theorem do_1 {S S' : St} {p r : PV} {a : ActD} (ha : a.Wf) (hk : a.kind = 1) (hc : cval T 77 [p, .str a.name] S = some (r, S')) : cval T 19 [p, actV a] S = some (.tup [r, .nils], S') := by
 refine cval_ok' fn_19 rfl ?_
 simp -implicitDefEqProofs [law04_do, actV, pstep, ha.bone, ha.kone, ha.bcells, ha.kcells, hk, part1, hc]
theorem do_2 {S S' : St} {p r : PV} {a : ActD} (ha : a.Wf) (hk : a.kind = 2) (hc : cval T 78 [p, .str a.name, a.bv] S = some (r, S')) : cval T 19 [p, actV a] S = some (.tup [r, .nils], S') := by
 refine cval_ok' fn_19 rfl ?_
 simp -implicitDefEqProofs [law04_do, actV, pstep, ha.bone, ha.kone, ha.bcells, ha.kcells, hk, part1, hc]
theorem do_3 {S S' : St} {p r : PV} {a : ActD} (ha : a.Wf) (hk : a.kind = 3) (hc : cval T 82 [p, .str a.name, .str a.to] S = some (r, S')) : cval T 19 [p, actV a] S = some (.tup [r, .nils], S') := by
 refine cval_ok' fn_19 rfl ?_
 simp -implicitDefEqProofs [law04_do, actV, pstep, ha.bone, ha.kone, ha.bcells, ha.kcells, hk, part1, hc]
theorem do_4 {S S' : St} {p r : PV} {a : ActD} (ha : a.Wf) (hk : a.kind = 4) (hc : cval T 83 [p, .str a.name] S = some (r, S')) : cval T 19 [p, actV a] S = some (.tup [r, .nils], S') := by
 refine cval_ok' fn_19 rfl ?_
 simp -implicitDefEqProofs [law04_do, actV, pstep, ha.bone, ha.kone, ha.bcells, ha.kcells, hk, part1, hc]
theorem do_5 {S S' : St} {p r : PV} {a : ActD} (ha : a.Wf) (hk : a.kind = 5) (hc : cval T 84 [p, .str a.name] S = some (r, S')) : cval T 19 [p, actV a] S = some (.tup [r, .nils], S') := by
 refine cval_ok' fn_19 rfl ?_
 simp -implicitDefEqProofs [law04_do, actV, pstep, ha.bone, ha.kone, ha.bcells, ha.kcells, hk, part1, hc]
theorem do_6 {S S' : St} {p r : PV} {a : ActD} (ha : a.Wf) (hk : a.kind = 6) (hc : cval T 79 [p] S = some (r, S')) : cval T 19 [p, actV a] S = some (.tup [r, .nils], S') := by
 refine cval_ok' fn_19 rfl ?_
 simp -implicitDefEqProofs [law04_do, actV, pstep, ha.bone, ha.kone, ha.bcells, ha.kcells, hk, part1, hc]
theorem do_9 {S S' : St} {p r : PV} {a : ActD} (ha : a.Wf) (hk : a.kind = 9) (hc : cval T 80 [p, .int .i64 a.n, a.kv] S = some (r, S')) : cval T 19 [p, actV a] S = some (.tup [r, .nils], S') := by
 refine cval_ok' fn_19 rfl ?_
 simp -implicitDefEqProofs [law04_do, actV, pstep, ha.bone, ha.kone, ha.bcells, ha.kcells, hk, part1, hc]
theorem do_7 {S S' : St} {p b e : PV} {a : ActD} (ha : a.Wf) (hk : a.kind = 7) (hc : cval T 81 [p, .str a.name] S = some (.tup [b, e], S')) : cval T 19 [p, actV a] S = some (.tup [e, b], S') := by
 refine cval_ok' fn_19 rfl ?_
 simp -implicitDefEqProofs [law04_do, actV, pstep, ha.bone, ha.kone, ha.bcells, ha.kcells, hk, part1, hc]
theorem do_8 {S S' : St} {p : PV} {a : ActD} (ha : a.Wf) (hk : a.kind = 8) (hc : cval T 85 [p, .int .i64 a.n] S = some (.tup [], S')) : cval T 19 [p, actV a] S = some (.tup [.int .i64 0, .nils], S') := by
 refine cval_ok' fn_19 rfl ?_
 simp -implicitDefEqProofs [law04_do, actV, pstep, ha.bone, ha.kone, ha.bcells, ha.kcells, hk, part1, hc]
theorem do_0 {S : St} {p : PV} {a : ActD} (ha : a.Wf) (hk : a.kind < 1 ∨ 9 < a.kind) : cval T 19 [p, actV a] S = some (.tup [.int .i64 0, .nils], S) := by
 refine cval_ok' fn_19 rfl ?_
 have h1 : (a.kind == 1) = false := by rw [beq_eq_false_iff_ne]; omega
 have h2 : (a.kind == 2) = false := by rw [beq_eq_false_iff_ne]; omega
 have h3 : (a.kind == 3) = false := by rw [beq_eq_false_iff_ne]; omega
 have h4 : (a.kind == 4) = false := by rw [beq_eq_false_iff_ne]; omega
 have h5 : (a.kind == 5) = false := by rw [beq_eq_false_iff_ne]; omega
 have h6 : (a.kind == 6) = false := by rw [beq_eq_false_iff_ne]; omega
 have h7 : (a.kind == 7) = false := by rw [beq_eq_false_iff_ne]; omega
 have h8 : (a.kind == 8) = false := by rw [beq_eq_false_iff_ne]; omega
 have h9 : (a.kind == 9) = false := by rw [beq_eq_false_iff_ne]; omega
 simp -implicitDefEqProofs [law04_do, actV, pstep, ha.bone, ha.kone, ha.bcells, ha.kcells, part1, h1, h2, h3, h4, h5, h6, h7, h8, h9]

def refE (D : Dk) (a : ActD) : Int :=
 if a.kind = 1 then createE D a.name else if a.kind = 2 then appendE D a.name a.b else if a.kind = 3 then renameE D a.name a.to else if a.kind = 6 then 0 else findE D a.name

inductive DoesD (D : Dk) (a : ActD) : Int → List UInt8 → Dk → Prop where
 | refuse (hk : 1 ≤ a.kind ∧ a.kind ≤ 6) (hr : refE D a ≠ 0) : DoesD D a (refE D a) [] D
 | dark (hk : 1 ≤ a.kind ∧ a.kind ≤ 6) (hr : refE D a = 0) (hs : stepR D = 6) : DoesD D a 6 [] (stepD D)
 | create (hk : a.kind = 1) (hr : createE D a.name = 0) (hs : stepR D = 0) (F : Nat) (wv' : PV) (hF : F ∉ D.fl) : DoesD D a 0 [] { stepD (addF D F) with live := put a.name F D.live, wait := D.wait ++ [([], a.name, some F)], wv := wv' }
 | append (hk : a.kind = 2) (hr : appendE D a.name a.b = 0) (hs : stepR D = 0) (f : Nat) (v' : PV) (hf : lk a.name D.live = some f) : DoesD D a 0 [] (setF (stepD D) f v' (D.fb f ++ a.b) (D.fs f))
 | rename (hk : a.kind = 3) (hr : renameE D a.name a.to = 0) (hs : stepR D = 0) (wv' : PV) : DoesD D a 0 [] { stepD D with live := doE (a.name, a.to, none) D.live, wait := D.wait ++ [(a.name, a.to, none)], wv := wv' }
 | remove (hk : a.kind = 4) (hr : findE D a.name = 0) (hs : stepR D = 0) (wv' : PV) : DoesD D a 0 [] { stepD D with live := doE (a.name, [], none) D.live, wait := D.wait ++ [(a.name, [], none)], wv := wv' }
 | sync (hk : a.kind = 5) (hr : findE D a.name = 0) (hs : stepR D = 0) (f : Nat) (hf : lk a.name D.live = some f) : DoesD D a 0 [] (setF (stepD D) f (D.fv f) (D.fb f) (D.fb f).length)
 | syncdir (hk : a.kind = 6) (hs : stepR D = 0) (B : Nat) : DoesD D a 0 [] { stepD D with bi := B, base := D.live, wait := [], wv := .nils }
 | read (hk : a.kind = 7) : DoesD D a (readE D a.name) (readB D a.name) D
 | fuse (hk : a.kind = 8) : DoesD D a 0 [] (fuseD D a.n)
 | crash (hk : a.kind = 9) (li' : Nat) (fv' : Nat → PV) : DoesD D a 0 [] (crashD D li' fv' a.n a.kept)
 | none (hk : a.kind < 1 ∨ 9 < a.kind) : DoesD D a 0 [] D

def HndB (bv : PV) (b : List UInt8) : Prop := toStrP bv = some (.str b)

theorem readV_str {S : St} {o K : Nat} {D : Dk} (h : At S o K D) (n : Nm) : toStrP (readV D n) = some (.str (readB D n)) := by
 unfold readV readB
 split
 ·cases hl : lk n D.live with
  | none => rfl
  | some f =>
   simp only
   obtain ⟨_, hsl, _⟩ := h.file f (h.inl _ (lk_mem hl))
   rcases hsl with ⟨e, hb⟩ | ⟨k, e1, e, _⟩
   ·rw [e]
    have : D.fb f = [] := by simpa [ofBytes] using hb
    rw [this]; rfl
   ·rw [e]
    simp only [cloneV, toStrP, bytesOf_oB]
 ·rfl

theorem stepR_or (D : Dk) : stepR D = 0 ∨ stepR D = 6 := stepR_cases D

theorem act_val {S : St} {o K : Nat} {D : Dk} (h : At S o K D) (hK : K ≤ 1048560) {a : ActD} (ha : a.Wf) :
  ∃ r bv b D' S', cval T 19 [.ptr o 0, actV a] S = some (.tup [.int .i64 r, bv], S') ∧ At S' o (K + 2) D' ∧ Fra o S S' D D' ∧ DoesD D a r b D' ∧ HndB bv b := by
 have nn : HndB .nils [] := rfl
 by_cases h0 : a.kind < 1 ∨ 9 < a.kind
 ·exact ⟨0, .nils, [], D, S, do_0 ha h0, h.mono (by omega), Fra.refl _ _ _, .none h0, nn⟩
 by_cases h1 : a.kind = 1
 ·have hre : refE D a = createE D a.name := by simp [refE, h1]
  by_cases he : createE D a.name = 0
  ·rcases stepR_or D with hs | hs
   ·obtain ⟨wv', S', hc, hA, hR⟩ := create_ok h ha.name (by omega) he hs
    exact ⟨_, .nils, [], _, S', do_1 ha h1 hc, hA, hR, .create h1 he hs _ _ (lt_nf h), nn⟩
   ·obtain ⟨S', hc, hA, hR, hi⟩ := create_dark h ha.name (by omega) he hs
    exact ⟨_, .nils, [], _, S', do_1 ha h1 hc, hA.mono (by omega), hR, .dark (by omega) (by rw [hre]; exact he) hs, nn⟩
  ·rw [← hre] at he
   exact ⟨refE D a, .nils, [], D, S, do_1 ha h1 (by rw [hre]; exact create_no h ha.name (by omega) (by rw [← hre]; exact he)), h.mono (by omega), Fra.refl _ _ _, .refuse (by omega) he, nn⟩
 by_cases h2 : a.kind = 2
 ·have hre : refE D a = appendE D a.name a.b := by simp [refE, h2]
  by_cases he : appendE D a.name a.b = 0
  ·rcases stepR_or D with hs | hs
   ·obtain ⟨f, hlk, _⟩ := find_some (appendE_zero he).1
    obtain ⟨v', S', hc, hA, hR⟩ := append_ok h (by omega) ha.name ha.len ha.app he hs hlk
    exact ⟨_, .nils, [], _, S', do_2 ha h2 hc, hA.mono (by omega), hR, .append h2 he hs _ _ hlk, nn⟩
   ·exact ⟨_, .nils, [], _, _, do_2 ha h2 (append_dark h (by omega) ha.name ha.len he hs), (step_val h (by omega)).2.mono (by omega), step_fra, .dark (by omega) (by rw [hre]; exact he) hs, nn⟩
  ·rw [← hre] at he
   exact ⟨refE D a, .nils, [], D, S, do_2 ha h2 (by rw [hre]; exact append_no h (by omega) ha.name ha.len (by rw [← hre]; exact he)), h.mono (by omega), Fra.refl _ _ _, .refuse (by omega) he, nn⟩
 by_cases h3 : a.kind = 3
 ·have hre : refE D a = renameE D a.name a.to := by simp [refE, h3]
  by_cases he : renameE D a.name a.to = 0
  ·rcases stepR_or D with hs | hs
   ·obtain ⟨wv', S', hc, hA, hR⟩ := rename_ok h ha.name ha.to (by omega) he hs
    exact ⟨_, .nils, [], _, S', do_3 ha h3 hc, hA, hR, .rename h3 he hs _, nn⟩
   ·exact ⟨_, .nils, [], _, _, do_3 ha h3 (rename_dark h ha.name ha.to (by omega) he hs), (step_val h (by omega)).2.mono (by omega), step_fra, .dark (by omega) (by rw [hre]; exact he) hs, nn⟩
  ·rw [← hre] at he
   exact ⟨refE D a, .nils, [], D, S, do_3 ha h3 (by rw [hre]; exact rename_no h ha.name ha.to (by rw [← hre]; exact he)), h.mono (by omega), Fra.refl _ _ _, .refuse (by omega) he, nn⟩
 by_cases h4 : a.kind = 4
 ·have hre : refE D a = findE D a.name := by simp [refE, h4]
  by_cases he : findE D a.name = 0
  ·rcases stepR_or D with hs | hs
   ·obtain ⟨wv', S', hc, hA, hR⟩ := remove_ok h ha.name (by omega) he hs
    exact ⟨_, .nils, [], _, S', do_4 ha h4 hc, hA, hR, .remove h4 he hs _, nn⟩
   ·exact ⟨_, .nils, [], _, _, do_4 ha h4 (remove_dark h ha.name (by omega) he hs), (step_val h (by omega)).2.mono (by omega), step_fra, .dark (by omega) (by rw [hre]; exact he) hs, nn⟩
  ·rw [← hre] at he
   exact ⟨refE D a, .nils, [], D, S, do_4 ha h4 (by rw [hre]; exact remove_no h ha.name (by rw [← hre]; exact he)), h.mono (by omega), Fra.refl _ _ _, .refuse (by omega) he, nn⟩
 by_cases h5 : a.kind = 5
 ·have hre : refE D a = findE D a.name := by simp [refE, h5]
  by_cases he : findE D a.name = 0
  ·rcases stepR_or D with hs | hs
   ·obtain ⟨f, hlk, _⟩ := find_some he
    obtain ⟨S', hc, hA, hR⟩ := sync_ok h ha.name (by omega) he hs hlk
    exact ⟨_, .nils, [], _, S', do_5 ha h5 hc, hA.mono (by omega), hR, .sync h5 he hs _ hlk, nn⟩
   ·exact ⟨_, .nils, [], _, _, do_5 ha h5 (sync_dark h ha.name (by omega) he hs), (step_val h (by omega)).2.mono (by omega), step_fra, .dark (by omega) (by rw [hre]; exact he) hs, nn⟩
  ·rw [← hre] at he
   exact ⟨refE D a, .nils, [], D, S, do_5 ha h5 (by rw [hre]; exact sync_no h ha.name (by rw [← hre]; exact he)), h.mono (by omega), Fra.refl _ _ _, .refuse (by omega) he, nn⟩
 by_cases h6 : a.kind = 6
 ·have hre : refE D a = 0 := by simp [refE, h6]
  rcases stepR_or D with hs | hs
  ·obtain ⟨S', hc, hA, hR⟩ := syncdir_ok h (by omega) hs
   exact ⟨_, .nils, [], _, S', do_6 ha h6 hc, hA.mono (by omega), hR, .syncdir h6 hs _, nn⟩
  ·exact ⟨_, .nils, [], _, _, do_6 ha h6 (syncdir_no h (by omega) hs), (step_val h (by omega)).2.mono (by omega), step_fra, .dark (by omega) hre hs, nn⟩
 by_cases h7 : a.kind = 7
 ·exact ⟨_, _, _, _, _, do_7 ha h7 (dread_val h ha.name), h.mono (by omega), Fra.refl _ _ _, .read h7, readV_str h a.name⟩
 by_cases h8 : a.kind = 8
 ·obtain ⟨hc, hA, hR⟩ := fuse_val h ha.n
  exact ⟨_, .nils, [], _, _, do_8 ha h8 hc, hA.mono (by omega), hR, .fuse h8, nn⟩
 ·have h9 : a.kind = 9 := by omega
  obtain ⟨li', fv', S', hc, hA, hR, hne⟩ := crash_val h (by omega) (dirs := a.n) ha.kept
  exact ⟨_, .nils, [], _, S', do_9 ha h9 hc, hA.mono (by omega), hR, .crash h9 _ _, nn⟩
end Ps
