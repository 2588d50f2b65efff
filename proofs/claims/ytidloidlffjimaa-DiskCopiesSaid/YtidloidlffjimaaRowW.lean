/- A law's contract, where its calls may come to this or to that. -/
import Derived.Test.YtidloidlffjimaaCA
import Derived.Test.YtidloidlffjimaaCH
import Derived.Test.YtidloidlffjimaaRow
import Derived.Test.YtidloidlffjimaaSimY
namespace Ps
set_option linter.unusedSimpArgs false
set_option linter.unusedVariables false
open Go Go.Proofs
theorem rnew_bad2 {room : Int} (h : room < 1 ∨ 4194304 < room) : pval T 17 [.int .i64 room] = some (.tup [.agg [.int .i64 0, .nils, .nils, .nils, .int .i64 0, .bool false, .int .i64 0], .int .i64 2]) := by
 refine pval_st ?_ rfl rfl
 have hf : finish false St0 ⟨St0.objs ++ [[.int .i64 0, .nils, .nils, .nils, .int .i64 0, .bool false, .int .i64 0]], St0.tips⟩ (.tup [.agg [.int .i64 0, .nils, .nils, .nils, .int .i64 0, .bool false, .int .i64 0], .int .i64 2]) = (.tup [.agg [.int .i64 0, .nils, .nils, .nils, .int .i64 0, .bool false, .int .i64 0], .int .i64 2], St0) :=
  fin_free ((Grows.refl St0).objs [_]) rfl
 refine cval_ok' fn_17 rfl ?_
 by_cases h1 : room < 1
 ·simp -implicitDefEqProofs [ref04_New, pstep, putCells, peval, fillParts, part7, h1]
  exact ends_ct (by simp [part7] <;> rfl) (by simp <;> rfl) hf
 ·have h2 : 4194304 < room := by omega
  simp -implicitDefEqProofs [ref04_New, pstep, putCells, peval, fillParts, part7, h1, h2]
  exact ends_ct (by simp [part7] <;> rfl) (by simp <;> rfl) hf

def TrueR (r : Rs) : Prop := ∃ S', r = .ret (.bool true) S'
theorem true_fin {S S1 : St} : TrueR (.ret (finish false S S1 (.bool true)).1 (finish false S S1 (.bool true)).2) := by
 refine ⟨(finish false S S1 (.bool true)).2, ?_⟩
 have : (finish false S S1 (.bool true)).1 = .bool true := by
  have hs : sol S1.objs S.objs.length solFuel (.bool true) = some (.bool true) := rfl
  unfold finish
  simp only [Bool.false_eq_true, if_false, hs]
  split
  ·rfl
  ·split <;> rfl
 rw [this]

abbrev LPost : Wx → Fr → St → Prop := fun e fr' S1 => match e with
 | .exit _ => False
 | .pan v => TrueR (.pan (finish false St0 S1 v).1 (finish false St0 S1 v).2)
 | _ => ∃ vs, resAll fr' S1 [.tmp 6] = some vs ∧ TrueR (.ret (finish false St0 S1 (packed vs)).1 (finish false St0 S1 (packed vs)).2)

theorem lpost_true {fr : Fr} {S : St} (h : fr 6 = .bool true) : LPost .ret fr S := ⟨[.bool true], by simp [resAll, resOf, h], true_fin⟩

theorem copies_law (room : Int) {al bl : List ActD} {lv mv : PV} (hl : Reads1 6 lv (al.map actV)) (l1 : al.length ≤ maxLen) (l2 : ∀ a ∈ al, a.Wf) (l3 : ∀ a ∈ al, a.b.length ≤ maxLen)
  (hm : Reads1 6 mv (bl.map actV)) (m1 : bl.length ≤ maxLen) (m2 : ∀ a ∈ bl, a.Wf) (m3 : ∀ a ∈ bl, a.b.length ≤ maxLen) : WSpec tie 461 [.int .i64 room, lv, mv] St0 TrueR := by
 have hz : purV T 18 [] = some (.bool true) := (purV_free rfl).trans lives_pval
 refine W_fn tieOk funcLaw chkLaw rfl ?_
 show W tie lawW.body _ _ LPost
 unfold lawW
 simp only
 refine W_seq_det tieOk rfl ?_
 simp -implicitDefEqProofs [tie_T, law04_DiskCopies_r0]
 refine W_seq_det tieOk rfl ?_
 by_cases hr : room < 1 ∨ 4194304 < room
 ·have hn := new_bad (S := St0) hr
  have hn2 := rnew_bad2 hr
  simp -implicitDefEqProofs [tie_T, law04_DiskCopies_r1, hn, argsFr]
  refine W_seq_det tieOk rfl ?_
  simp -implicitDefEqProofs [tie_T, law04_DiskCopies_r2, hn2, pstep, putCells, peval, fillParts, part7, argsFr]
  refine W_test tieOk rfl ?_
  simp -implicitDefEqProofs [tie_T, law04_DiskCopies_r3]
  refine W_ret_det tieOk rfl ?_
  simp -implicitDefEqProofs [tie_T, law04_DiskCopies_r4, hz, lives_pval]
  exact lpost_true (by simp)
 ·have hr1 : 1 ≤ room := by omega
  have hr2 : room ≤ 4194304 := by omega
  have hn : cval T 16 [.int .i64 room] St0 = some (.tup [.ptr 2 0, .int .i64 0], ⟨[[], [], [.int .i64 room, .map 0, .map 1, .nils, .int .i64 (-1), .int .i64 0, .bool false]], []⟩) := new_ok hr1 hr2
  have hA := new_at (S := St0) hr1 hr2
  have hn2 := rnew_pval ⟨hr1, hr2⟩
  have hwf := newR_wf ⟨hr1, hr2⟩
  have hrel : RelD (newD room 0) (newR room) := rel_new 0 1 _ _ _
  have hA0 : At ⟨[[], [], dcells (newD room 0), (newR room).c], []⟩ 2 0 (newD room 0) := hA.grows ((Grows.refl _).objs [(newR room).c])
  simp only [newR, RD.v, RD.c] at hn2
  simp -implicitDefEqProofs [tie_T, law04_DiskCopies_r1, hn, argsFr]
  refine W_seq_det tieOk rfl ?_
  simp -implicitDefEqProofs [tie_T, law04_DiskCopies_r2, hn2, pstep, putCells, peval, fillParts, part7, argsFr]
  refine W_test tieOk rfl ?_
  simp -implicitDefEqProofs [tie_T, law04_DiskCopies_r3]
  refine W_seq_det tieOk rfl ?_
  -- behind the second loop
  have fin : ∀ (fr : Fr) (S : St) (D D' : Dk) (R R' : RD) (c so : Nat), fr 7 = .ptr 2 0 → fr 9 = .ptr 3 0 → fr 12 = .ptr c 0 → fr 13 = .ptr so 0 → At S 2 60 D → S.objs[3]? = some R.c → RelD D R → R.Wf 60 → At S c 120 D' → S.objs[so]? = some R'.c → RelD D' R' → R'.Wf 120 →
    W tie (.seq (.clr [(94, 105)] (.region law04_DiskCopies_r19)) .ret) fr S LPost := by
   intro fr S D D' R R' c so f7 f9 f12 f13 hA h3 hr hw hA' hs hr' hw'
   have wh1 := whole_val hA (by omega) hr hw (by omega)
   have wh2 := whole_val hA' (by omega) hr' hw' (by omega)
   have hld : loadP S true 7 (.ptr 3 0) = some R.v := by rw [loadP_ptr h3]; rfl
   have hld2 : loadP S true 7 (.ptr so 0) = some R'.v := by rw [loadP_ptr hs]; rfl
   refine W_ret_det tieOk rfl ?_
   simp -implicitDefEqProofs [tie_T, law04_DiskCopies_r19, f7, f9, f12, f13, hld, hld2, wh1, wh2, hz, lives_pval]
   exact lpost_true (by simp)
  -- behind the first loop
  have mid : ∀ (fr : Fr) (S : St) (D : Dk) (R : RD), fr 2 = mv → fr 7 = .ptr 2 0 → fr 9 = .ptr 3 0 → At S 2 60 D → S.objs[3]? = some R.c → ¬ OwnsO D 3 → RelD D R → R.Wf 60 →
    W tie (.seq (.clr [(63, 65)] (.region lawW_r10)) (.seq (.seq (.clr [(65, 66)] (.region law04_DiskCopies_r11)) (.cond (V 66) (.seq (.region law04_DiskCopies_r12) .ret) .skip)) (.seq lawW_r13 (.seq lawW_c (.seq (.clr [(94, 105)] (.region law04_DiskCopies_r19)) .ret))))) fr S LPost := by
   intro fr S D R f2 f7 f9 hA h3 hn3 hr hw
   refine W_seq (W_clr (W_region tieOk ?_))
   unfold lawW_r10
   refine wops_pre rfl ?_
   simp -implicitDefEqProofs [f7]
   refine wops_wc (f := 462) (aq := [.ptr 2 0]) (by simp [wcallee, f7]) (copy_spec hA (by omega)) ?_ (fun v S' h => by obtain ⟨_, _, _, _, e, _⟩ := h; cases e)
   rintro v S1 ⟨c, φ, D1, S1', e, hA1, hcp, ho, ht, hown, hc, hownT⟩
   cases e
   refine ⟨fun t ht => by simp at ht, wops_end rfl ?_⟩
   simp -implicitDefEqProofs []
   refine W_test tieOk rfl ?_
   simp -implicitDefEqProofs [tie_T, law04_DiskCopies_r11]
   have hlt2 := (List.getElem?_eq_some_iff.1 hA.obj).1
   have hlt3 := (List.getElem?_eq_some_iff.1 h3).1
   have hr1 : RelD D1 R := hr.copy hcp hA.inb hA.inw
   have h31 := ho 3 _ h3
   have hAo : At S1 2 60 D := hA.grow ho ht
   have o1 := hw.fs.one.1
   have o2 := hw.bs.one.1
   have o3 := hw.ws.one.1
   have hld : loadP S1 true 7 (.ptr 3 0) = some R.v := by rw [loadP_ptr h31]; rfl
   have hcl := (List.getElem?_eq_some_iff.1 hA1.obj).1
   obtain ⟨S2, hS2⟩ : ∃ S2 : St, S2 = ⟨S1.objs ++ [R.c], S1.tips⟩ := ⟨_, rfl⟩
   have hg2 : Grows S1 S2 := by rw [hS2]; exact (Grows.refl S1).objs _
   have hap : ∀ {i : Nat} {x : List PV}, S1.objs[i]? = some x → S2.objs[i]? = some x := fun hx => by rw [hS2]; simp only; rw [List.getElem?_append_left (List.getElem?_eq_some_iff.1 hx).1]; exact hx
   have hlo : ∀ i, OwnsO D i → i < S.objs.length := fun i hi => by
    rcases hi with rfl | rfl | hi
    ·exact (List.getElem?_eq_some_iff.1 hA.base).1
    ·exact (List.getElem?_eq_some_iff.1 hA.live).1
    ·exact (List.getElem?_eq_some_iff.1 (hA.file i hi).1).1
   have hlk : ∀ k, Owns D k → k < S.tips.length := fun k hk => by
    rcases hk with hk | ⟨f, hf, hk⟩
    ·exact hA.wv.tip hk
    ·exact (hA.file f hf).2.1.tip hk
   have hl1 : ∀ i, OwnsO D1 i → i < S1.objs.length := fun i hi => by
    rcases hi with rfl | rfl | hi
    ·exact (List.getElem?_eq_some_iff.1 hA1.base).1
    ·exact (List.getElem?_eq_some_iff.1 hA1.live).1
    ·exact (List.getElem?_eq_some_iff.1 (hA1.file i hi).1).1
   have hSl : S.objs.length ≤ S1.objs.length := by omega
   have tail : ∀ fr', fr' 2 = mv → fr' 7 = .ptr 2 0 → fr' 9 = .ptr 3 0 → fr' 12 = .ptr c 0 → fr' 13 = .ptr S1.objs.length 0 → W tie (.seq lawW_c (.seq (.clr [(94, 105)] (.region law04_DiskCopies_r19)) .ret)) fr' S2 LPost := by
    intro fr' z2 z7 z9 z12 z13
    refine W_seq_det tieOk rfl ?_
    have hloop := fun (fr2 : Fr) (y2 : fr2 2 = mv) (y7 : fr2 7 = .ptr 2 0) (y9 : fr2 9 = .ptr 3 0) (y12 : fr2 12 = .ptr c 0) (y13 : fr2 13 = .ptr S1.objs.length 0) (y14 : fr2 14 = .int .i64 0) =>
     copies_l1 (KK := []) (Q := fun fr' S' => W tie (.seq (.clr [(94, 105)] (.region law04_DiskCopies_r19)) .ret) fr' S' LPost) hm m1 m2 m3 (c := c) (so := S1.objs.length) (D := D) (R := R)
      ⟨by omega, by omega, fun h => by have := hlo c h; omega⟩ ⟨by omega, by omega, by omega, fun h => by have := hlo _ h; omega⟩
      (fun fr3 S3 D3 R3 w7 w9 w12 w13 a1 a2 a3 a4 a5 a6 => by rw [gval_nil]; exact ok_some.2 (fin fr3 S3 D D3 R R3 c _ w7 w9 w12 w13 a1 a2 hr hw a3 a4 a5 a6))
      fr2 S2 D1 R y2 y7 y9 y12 y13 y14 (hAo.grows hg2) (hap h31) (hA1.grows hg2) (by rw [hS2]; simp) hr1 hw
      ⟨fun h => by have := hown 2 h; omega, fun h => by have := hown 3 h; omega, fun h => by have := hl1 _ h; omega, fun i hi h => by have := hlo i hi; have := hown i h; omega, fun k hk h => by have := hlk k hk; have := hownT k h; omega⟩
    unfold lawW_c
    simp -implicitDefEqProofs [tie_T, law04_DiskCopies_r14]
    exact hloop _ (by simp [z2]) (by simp [z7]) (by simp [z9]) (by simp [z12]) (by simp [z13]) (by simp)
   refine W_seq_det tieOk rfl ?_
   unfold lawW_r13
   simp only [RD.v, RD.c] at hld hS2
   simp -implicitDefEqProofs [tie_T, law04_DiskCopies_r13, f9, hld, pstep, putCells, part7, o1, o2, o3]
   rw [← hS2]
   exact tail _ (by simp [f2]) (by simp [f7]) (by simp [f9]) (by simp) (by simp)
  have hloop := fun (fr : Fr) (y1 : fr 1 = lv) (y2 : fr 2 = mv) (y7 : fr 7 = .ptr 2 0) (y9 : fr 9 = .ptr 3 0) (y11 : fr 11 = .int .i64 0) =>
   copies_l0 (KK := []) (mv := mv) (Q := fun fr' S' => W tie (.seq (.clr [(63, 65)] (.region lawW_r10)) (.seq (.seq (.clr [(65, 66)] (.region law04_DiskCopies_r11)) (.cond (V 66) (.seq (.region law04_DiskCopies_r12) .ret) .skip)) (.seq lawW_r13 (.seq lawW_c (.seq (.clr [(94, 105)] (.region law04_DiskCopies_r19)) .ret))))) fr' S' LPost) hl l1 l2 l3
    (fun fr3 S3 D3 R3 w2 w7 w9 a1 a2 a3 a4 a5 => by rw [gval_nil]; exact ok_some.2 (mid fr3 S3 D3 R3 w2 w7 w9 a1 a2 a3 a4 a5))
    fr ⟨[[], [], dcells (newD room 0), (newR room).c], []⟩ (newD room 0) (newR room) y1 y2 y7 y9 y11 hA0 rfl (by simp [OwnsO, newD]) hrel hwf
  clear mid fin
  simp -implicitDefEqProofs [tie_T, law04_DiskCopies_r5]
  exact hloop _ (by simp [argsFr]) (by simp [argsFr]) (by simp) (by simp) (by simp)

theorem law_DiskCopies (xs : denL [.int .i64, .sl tyAct, .sl tyAct]) (h : wfL [.int .i64, .sl tyAct, .sl tyAct] xs) : WSpec tie 461 (pvL [.int .i64, .sl tyAct, .sl tyAct] xs) St0 (fun r => ∃ S', r = .ret (.bool true) S') := by
 obtain ⟨room, l, m, u⟩ := xs
 obtain ⟨h1, h2, h3, _⟩ := h
 obtain ⟨l1, l2⟩ := inA_wf h2
 have l3 := inA_b h2
 obtain ⟨m1, m2⟩ := inA_wf h3
 have m3 := inA_b h3
 exact copies_law room (inA_reads (x := l)) l1 l2 l3 (inA_reads (x := m)) m1 m2 m3
end Ps
namespace Ps
open Go Go.ChangeShapes Go.WideShapes Go.ChangeAt Go.RowKit
set_option linter.unusedVariables false
set_option linter.unusedSimpArgs false
section
variable {H : Type} {enc : TypeId × Value → H}
theorem contractW {X : Tie} (hX : TieOk X) {gid : Nat} {fn : Func} (hfn : X.P.funcs[X.fnOf gid]? = some fn) {s : ChangeSpec} (hvars : s.vars = [])
  (τs : List Ty) (hchk : chkL X.P τs fn.params.toList = true) (hspec : ∀ (H : Type) (ds : List (DataW H)), ds.length = fn.params.size → s.fn H ds = { results := [.lit (.bool true)], args := ds })
  {tb : TypeId} (hres : fn.resultTypes = #[tb]) (htb : X.P.underlying tb = some .bool) (hl : laidOutB X.P = true) {N : Nat} (hlaw : ∀ xs : denL τs, wfL τs xs → bulkL τs xs ≤ N → WSpec X gid (pvL τs xs) St0 (fun r => ∃ S', r = .ret (.bool true) S'))
  {W : World} {base : Nat} {args : Array Value} {ds gs : List (DataW H)} {before : List MemPlace} (hN : bulkDs ds ≤ N)
  (hval : ∀ (j : Nat) t v, fn.params[j]? = some t → args[j]? = some v → Value.okWide X.P W .any base t v)
  (hW : DataW.Whole enc X.P fn.params.toList s.vars false W args.toList ds gs before) :
  Calls X.P (X.fnOf gid) args W fun e W' => ∃ v, e = .returned v ∧ s.post enc X.P fn false true false false W args v W' := by
 have hW' := hW
 have hlt := hW.lt
 obtain ⟨p, q, hA, hV, rfl, hfz, hnd⟩ := hW
 rw [hvars] at hV
 obtain ⟨rfl, rfl⟩ := trodVars_none hV
 obtain ⟨l1, l2⟩ := trodAll_len hA
 let k := offsAll args.toList
 have hoff : ∀ v ∈ args.toList, ∀ a l c, Value.slice (some a) l c ∈ v.cells.toList → (∃ us t f, W.heap[a.block]? = some (.cells us t f)) → a.off ≤ pubOf W k a.block := by
  intro v hv a l c hm ⟨us, t, f, he⟩
  have : a.off ≤ k := offs_le (List.mem_flatMap.2 ⟨v, hv, hm⟩)
  simp only [pubOf, he]
  omega
 obtain ⟨xs, x1, x2, x3⟩ := args_open (X := X) (enc := enc) (allPub W k) τs fn.params.toList args.toList ds p hchk (fun j t v e1 e2 => hval j t v (by simpa using e1) (by simpa using e2)) hoff hA
 have hc := hlaw xs x1 (by rw [x2]; exact hN)
 have hVRL : VRL X (gh0 (pubOf W k)) W (pvL τs xs) args := ⟨by simpa using x3.1, fun j c u e1 e2 => x3.2 j c u e1 (by simpa using e2)⟩
 refine (calls_trueW hX hc (p := pubOf W k) (fun b hb => ?_) hVRL).mono fun e W' ⟨he, hk⟩ => ?_
 ·have : W.heap[b]? = none := by simpa using hb
  simp [pubOf, this]
 subst he
 have hds : s.fn H (ds ++ []) = { results := [.lit (.bool true)], args := ds } := by
  rw [List.append_nil]
  exact hspec H ds (by rw [l2]; simp)
 refine ⟨_, rfl, post_of_kept (pa := p) (pv := []) hW' (fun _ _ _ => ?_) (fun sp hsp => ?_) (fun _ _ => ?_) rfl hk (ok_one hres rfl (okWide_bool_mk htb _))⟩
 ·rw [hds, hres]
  exact trodAll_cons_mk (shut_bool htb _) trodAll_mk0
 ·rw [hds]
  exact trodAll_stays hl hk hchk hA (fun x hx => hlt x (by simp [hx])) (fun x hx => hsp x (by simp [hx]))
 ·rw [hds, hvars]
  rfl
end
end Ps
