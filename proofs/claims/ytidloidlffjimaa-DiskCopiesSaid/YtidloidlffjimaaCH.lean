/- Copy: what it comes to. -/
import Derived.Test.YtidloidlffjimaaCF
namespace Ps
set_option linter.unusedSimpArgs false
set_option linter.unusedVariables false
open Go Go.Proofs
theorem slt_reads {S : St} {v : PV} {w : List Ent} (h : SlT S 3 v (w.map entV)) : Reads1 3 v (w.map entV) := by
 rcases h with ⟨rfl, e⟩ | ⟨k, e, rfl, _⟩
 ·rw [e]; exact reads_nils 3
 ·exact reads_sl fun e he => by obtain ⟨x, _, rfl⟩ := List.mem_map.1 he; rfl

theorem wv_add {S : St} {v : PV} {es : List PV} (h : SlT S 3 v es) (x : PV) (hx : es.length ≤ 1048576) :
  ∃ v' y, appendTo 3 40 ⟨S.objs, S.tips ++ [(1, 3)]⟩ v [x] = some (v', ⟨S.objs, y⟩) ∧ SlT ⟨S.objs, y⟩ 3 v' (es ++ [x]) ∧ S.tips.length ≤ y.length ∧ (∀ k, tid v' = some k → tid v = some k ∨ S.tips.length ≤ k) ∧ ∀ (k : Nat) (c : Nat × Nat), tid v ≠ some k → S.tips[k]? = some c → y[k]? = some c := by
 rcases h with ⟨rfl, rfl⟩ | ⟨k, e, rfl, ht⟩
 ·refine ⟨.sl (some (S.tips.length + 1, 1)) [x] [], S.tips ++ [(1, 3), (1, 3)], ?_, .inr ⟨_, _, rfl, by simp⟩, by simp, fun k hk => .inr ?_, fun k c _ hc => ?_⟩
  ·rw [appendTo_nils (by simp) (by simp)]
   simp [newArr]
  ·simp only [tid, Option.some.injEq] at hk; omega
  ·rw [List.getElem?_append_left (List.getElem?_eq_some_iff.1 hc).1]; exact hc
 ·have hk := (List.getElem?_eq_some_iff.1 ht).1
  refine ⟨.sl (some (k, e + 1)) (es ++ [x]) [], (S.tips ++ [(1, 3)]).set k (e + 1, 3), ?_, .inr ⟨_, _, rfl, ?_⟩, by simp, fun j hj => .inl hj, fun j c hj hc => ?_⟩
  ·rw [appendTo_sl (by simp) (by simp only; rw [List.getElem?_append_left hk]; exact ht) (by simp; omega)]
   rfl
  ·simp only
   rw [List.getElem?_set_self (by simp; omega)]
  ·rw [List.getElem?_set_ne (fun q => hj (by rw [q]; rfl)), List.getElem?_append_left (List.getElem?_eq_some_iff.1 hc).1]; exact hc

structure LW (S0 : St) (D : Dk) (c t1 t2 : Nat) (b' l' : List (Nm × Nat)) (i : Nat) (M : List (Nat × Nat)) (gv : Nat → PV) (wv : PV) (S : St) : Prop where
 cp : Cp S0 none D M gv S
 cc : S.objs[c]? = some [.int .i64 D.room, .map t1, .map t2, wv, .int .i64 D.left, .int .i64 D.done, .bool D.dark]
 o1 : S.objs[t1]? = some (mcells b')
 o2 : S.objs[t2]? = some (mcells l')
 pb : b'.Perm (toM M D.base)
 pl : l'.Perm (toM M D.live)
 ib : ∀ p ∈ D.base, (lkM p.2 M).isSome = true
 il : ∀ p ∈ D.live, (lkM p.2 M).isSome = true
 iw : ∀ x ∈ D.wait.take i, ∀ f, x.2.2 = some f → (lkM f M).isSome = true
 sw : SlT S 3 wv (((D.wait.take i).map (mapE fun f => (lkM f M).getD 0)).map entV)
 tw : ∀ k, tid wv = some k → S0.tips.length ≤ k ∧ ∀ q ∈ M, tid (gv q.2) ≠ some k
 ne : ∀ q ∈ M, q.2 ≠ c ∧ q.2 ≠ t1 ∧ q.2 ≠ t2

theorem entM_app {M L : List (Nat × Nat)} {w : List Ent} (h : ∀ x ∈ w, ∀ f, x.2.2 = some f → (lkM f M).isSome = true) : w.map (mapE fun f => (lkM f (M ++ L)).getD 0) = w.map (mapE fun f => (lkM f M).getD 0) := by
 refine List.map_congr_left fun x hx => ?_
 obtain ⟨a, b, f⟩ := x
 cases f with
 | none => rfl
 | some f =>
  obtain ⟨g, hg⟩ := Option.isSome_iff_exists.1 (h _ hx f rfl)
  simp only [mapE, Option.map_some, hg, lkM_app hg]

theorem wait_loop {S0 : St} {o K0 : Nat} {D : Dk} (hA : At S0 o K0 D) (hK0 : K0 ≤ 1048570) {c t1 t2 : Nat} {b' l' : List (Nm × Nat)} (hc : S0.objs.length + 2 < c ∧ S0.objs.length + 2 < t1 ∧ S0.objs.length + 2 < t2 ∧ c ≠ t1 ∧ c ≠ t2) {K : List Kt} {Q : Fr → St → Prop}
  (hK : ∀ fr S M gv wv, LW S0 D c t1 t2 b' l' D.wait.length M gv wv S → fr 6 = .ptr c 0 → Ok (gval T K fr S) Q)
  (fr : Fr) (S : St) (M : List (Nat × Nat)) (gv : Nat → PV) (wv : PV) (h : LW S0 D c t1 t2 b' l' 0 M gv wv S) (f4 : fr 4 = .ptr (S0.objs.length + 2) 0) (f6 : fr 6 = .ptr c 0) (f42 : fr 42 = D.wv) (f43 : fr 43 = .int .i64 D.wait.length) (f44 : fr 44 = .int .i64 0) :
  Ok (gval T (.lp disk_Disk_Copy_l0 :: .blk 0 :: K) fr S) Q := by
 have hrd := slt_reads hA.wv
 have hwl : D.wait.length ≤ K0 := Nat.le_trans (Nat.le_add_left _ _) hA.cnt
 refine lp_up D.wait.length (fun i fr S => fr 4 = .ptr (S0.objs.length + 2) 0 ∧ fr 6 = .ptr c 0 ∧ fr 42 = D.wv ∧ fr 43 = .int .i64 D.wait.length ∧ fr 44 = .int .i64 (i : Int) ∧ ∃ M gv wv, LW S0 D c t1 t2 b' l' i M gv wv S) ?_ ?_ 0 (Nat.zero_le _) fr S ⟨f4, f6, f42, f43, by simpa using f44, M, gv, wv, h⟩
 ·rintro i fr S hi ⟨f4, f6, f42, f43, f44, M, gv, wv, h⟩ k
  have hw := wrap_up hi (n := D.wait.length) (by unfold maxLen; omega)
  have hg := hrd.get i (by simpa using hi) .i64
  obtain ⟨x, hx⟩ : ∃ x, x = D.wait[i] := ⟨_, rfl⟩
  have hgx : (D.wait.map entV)[i]'(by simpa using hi) = entV x := by simp [hx]
  rw [hgx, entV_cells] at hg
  have hxm : x ∈ D.wait := by rw [hx]; exact List.getElem_mem hi
  have htake : D.wait.take (i + 1) = D.wait.take i ++ [x] := by rw [List.take_add_one, List.getElem?_eq_getElem hi, hx]; rfl
  obtain ⟨S1, hS1⟩ : ∃ S1 : St, S1 = ⟨S.objs ++ [[.str x.1, .str x.2.1, fptr x.2.2]], S.tips⟩ := ⟨_, rfl⟩
  have hgrow : ∀ {i : Nat} {c : List PV}, S.objs[i]? = some c → S1.objs[i]? = some c := fun {i c} hc => by rw [hS1]; simp only; rw [List.getElem?_append_left (List.getElem?_eq_some_iff.1 hc).1]; exact hc
  have hnew : S1.objs[S.objs.length]? = some [.str x.1, .str x.2.1, fptr x.2.2] := by rw [hS1]; simp
  have hC1 : Cp S0 none D M gv S1 := h.cp.more (fun i c _ hc _ => hgrow hc) (fun k c hc => by rw [hS1]; exact hc) (fun i e => by cases e)
  have hlen : S0.objs.length + 2 < S.objs.length := (List.getElem?_eq_some_iff.1 h.cp.bo).1
  -- what own comes to
  obtain ⟨M', gv', S2, hown, hC2, hle, hsm⟩ : ∃ M' gv' S2, cval T 463 [fptr x.2.2, .ptr (S0.objs.length + 1) 0] S1 = some (fptr (x.2.2.map fun f => (lkM f M').getD 0), S2) ∧ Cp S0 none D M' gv' S2 ∧ CpLe S0 none M gv S1 M' gv' S2 ∧ ∀ f, x.2.2 = some f → (lkM f M').isSome = true := by
   cases hf : x.2.2 with
   | none => exact ⟨M, gv, S1, own_nil ⟨_, hC1.bm⟩, hC1, .refl, fun f e => by cases e⟩
   | some f =>
    obtain ⟨g, M', gv', S2, q1, q2, q3, q4⟩ := own_val hA hC1 (fun i e => by cases e) (hA.inw x hxm f hf)
    refine ⟨M', gv', S2, ?_, q2, q3, fun f' e => by cases e; rw [q4]; rfl⟩
    simp only [Option.map_some, q4, Option.getD_some]
    exact q1
  obtain ⟨L, hL⟩ := hle.pre
  obtain ⟨xn, hxn⟩ : ∃ xn, xn = mapE (fun f => (lkM f M').getD 0) x := ⟨_, rfl⟩
  have hxn2 : entV xn = .agg [.str x.1, .str x.2.1, fptr (x.2.2.map fun f => (lkM f M').getD 0)] := by rw [hxn]; rfl
  have hnm : S.objs.length ≠ S0.objs.length := by omega
  have hnew2 := hle.obj _ _ hnm (by simp) hnew
  have hcc1 := hle.obj c _ (by omega) (by simp) (hgrow h.cc)
  have hbo := hC1.bo
  obtain ⟨S3, hS3⟩ : ∃ S3 : St, S3 = ⟨S2.objs.set S.objs.length [.str x.1, .str x.2.1, fptr (x.2.2.map fun f => (lkM f M').getD 0)], S2.tips⟩ := ⟨_, rfl⟩
  have hol := hle.ol
  have hl1 : S1.objs.length = S.objs.length + 1 := by rw [hS1]; simp
  have hset : ∀ {j : Nat} {d : List PV}, j ≠ S.objs.length → S2.objs[j]? = some d → S3.objs[j]? = some d := fun {j d} hj hd => by rw [hS3]; simp only; rw [List.getElem?_set_ne (Ne.symm hj)]; exact hd
  have hx3 : S3.objs[S.objs.length]? = some [.str x.1, .str x.2.1, fptr (x.2.2.map fun f => (lkM f M').getD 0)] := by rw [hS3]; exact get_set hnew2
  have hcl : c < S.objs.length := (List.getElem?_eq_some_iff.1 h.cc).1
  have ht1l : t1 < S.objs.length := (List.getElem?_eq_some_iff.1 h.o1).1
  have ht2l : t2 < S.objs.length := (List.getElem?_eq_some_iff.1 h.o2).1
  have hcc3 := hset (by omega) hcc1
  have hMn : ∀ q ∈ M', q.2 ≠ S.objs.length := fun q hq => by
   by_cases hqM : q ∈ M
   ·have := (List.getElem?_eq_some_iff.1 (h.cp.fs.file q hqM).2.1).1
    omega
   ·have := (hle.new q hq hqM).1
    omega
  have hC3 : Cp S0 none D M' gv' S3 := hC2.more (fun j d _ hd hj => hset (by
    rcases hj with hj | hj
    ·omega
    ·obtain ⟨q, hq, rfl⟩ := List.mem_map.1 hj
     exact hMn q hq) hd) (fun k d hd => by rw [hS3]; exact hd) (fun i e => by cases e)
  have htl := hle.tl
  have hS1t : S1.tips = S.tips := by rw [hS1]
  have hS3t : S3.tips = S2.tips := by rw [hS3]
  have hww : (D.wait.take i).map (mapE fun f => (lkM f M').getD 0) = (D.wait.take i).map (mapE fun f => (lkM f M).getD 0) := by rw [hL]; exact entM_app h.iw
  have hsw3 : SlT S3 3 wv (((D.wait.take i).map (mapE fun f => (lkM f M').getD 0)).map entV) := by
   rw [hww]
   rcases h.sw with w | ⟨k, e, w1, w2⟩
   ·exact .inl w
   ·exact .inr ⟨k, e, w1, by rw [hS3t]; exact hle.tip _ _ (by rw [hS1t]; exact w2)⟩
  obtain ⟨wv', y, ha1, ha2, ha3, ha4, ha5⟩ := wv_add hsw3 (entV xn) (by simp; omega)
  have htw : ∀ k, tid wv = some k → S0.tips.length ≤ k ∧ ∀ q ∈ M', tid (gv' q.2) ≠ some k := fun k hk => by
   obtain ⟨w1, w2⟩ := h.tw k hk
   refine ⟨w1, fun q hq e => ?_⟩
   by_cases hqM : q ∈ M
   ·rw [hle.gv q hqM] at e; exact w2 q hqM e
   ·have h1 := (hle.new q hq hqM).2 k e
    rw [hS1t] at h1
    have h2 := h.sw.tip hk
    omega
  obtain ⟨S4, hS4⟩ : ∃ S4 : St, S4 = ⟨S3.objs.set c [.int .i64 D.room, .map t1, .map t2, wv', .int .i64 D.left, .int .i64 D.done, .bool D.dark], y⟩ := ⟨_, rfl⟩
  have hne' : ∀ q ∈ M', q.2 ≠ c ∧ q.2 ≠ t1 ∧ q.2 ≠ t2 := fun q hq => by
   by_cases hqM : q ∈ M
   ·exact h.ne q hqM
   ·have := (hle.new q hq hqM).1
    omega
  have hset4 : ∀ {j : Nat} {d : List PV}, j ≠ c → S3.objs[j]? = some d → S4.objs[j]? = some d := fun {j d} hj hd => by rw [hS4]; simp only; rw [List.getElem?_set_ne (Ne.symm hj)]; exact hd
  have hkeep : ∀ (k : Nat) (d : Nat × Nat), tid wv ≠ some k → S3.tips[k]? = some d → S4.tips[k]? = some d := fun k d hk hd => by rw [hS4]; exact ha5 k d hk hd
  have hC4 : Cp S0 none D M' gv' S4 := {
   old := fun j d _ hd => by
    have := (List.getElem?_eq_some_iff.1 hd).1
    exact hset4 (by omega) (hC3.old j d (by simp) hd)
   told := fun k d hd => hkeep k d (fun e => by
    have := (htw k e).1
    have := (List.getElem?_eq_some_iff.1 hd).1
    omega) (hC3.told k d hd)
   made := hset4 (by omega) hC3.made
   bm := hset4 (by omega) hC3.bm
   bo := hset4 (by omega) hC3.bo
   fs := {
    nd := hC3.fs.nd, ng := hC3.fs.ng, src := hC3.fs.src, dis := hC3.fs.dis
    file := fun q hq => by
     obtain ⟨f1, f2, f3, f5⟩ := hC3.fs.file q hq
     refine ⟨f1, hset4 (hne' q hq).1 f2, ?_, f5⟩
     rcases f3 with w | ⟨k, e, w1, w2⟩
     ·exact .inl w
     ·exact .inr ⟨k, e, w1, hkeep _ _ (fun e2 => (htw k e2).2 q hq (by rw [w1]; rfl)) w2⟩ } }
  have hLW : LW S0 D c t1 t2 b' l' (i + 1) M' gv' wv' S4 := {
   cp := hC4
   cc := by rw [hS4]; exact get_set hcc3
   o1 := hset4 (by omega) (hset (by omega) (hle.obj t1 _ (by omega) (by simp) (hgrow h.o1)))
   o2 := hset4 (by omega) (hset (by omega) (hle.obj t2 _ (by omega) (by simp) (hgrow h.o2)))
   pb := by rw [hL, toM_app h.ib]; exact h.pb
   pl := by rw [hL, toM_app h.il]; exact h.pl
   ib := fun p hp => by rw [hL]; exact isSome_app (h.ib p hp)
   il := fun p hp => by rw [hL]; exact isSome_app (h.il p hp)
   iw := fun z hz f hf => by
    rw [htake] at hz
    rcases List.mem_append.1 hz with hz | hz
    ·rw [hL]; exact isSome_app (h.iw z hz f hf)
    ·simp at hz; subst hz; exact hsm f hf
   sw := by
    rw [htake, List.map_append, List.map_append]
    simp only [List.map_cons, List.map_nil]
    rw [← hxn, hS4]
    rcases ha2 with w | ⟨k, e, w1, w2⟩
    ·exact .inl w
    ·exact .inr ⟨k, e, w1, w2⟩
   tw := fun k hk => by
    rcases ha4 k hk with e | e
    ·exact htw k e
    ·refine ⟨?_, fun q hq e2 => ?_⟩
     ·have := hC3.tlen; omega
     ·have := (hC3.fs.file q hq).2.2.1.tip e2
      omega
   ne := hne' }
  have hx1l : loadP S1 false 1 (.ptr (S0.objs.length + 2) 0) = some (.fn 463 [.ptr (S0.objs.length + 1) 0]) := by rw [loadP_ptr hbo]; simp
  have hL2 : ∀ fr', fr' 4 = .ptr (S0.objs.length + 2) 0 → fr' 6 = .ptr c 0 → fr' 42 = D.wv → fr' 43 = .int .i64 D.wait.length → fr' 44 = .int .i64 ((i : Int) + 1) → Ok (gval T (.lp disk_Disk_Copy_l0 :: .blk 0 :: K) fr' S4) Q := fun fr' g4 g6 g42 g43 g44 =>
   k fr' S4 ⟨g4, g6, g42, g43, by simpa using g44, M', gv', wv', hLW⟩
  clear k hK
  rw [hxn2] at ha1
  have hone : (fptr (x.2.2.map fun f => (lkM f M').getD 0)).one = true ∧ (fptr (x.2.2.map fun f => (lkM f M').getD 0)).cells = [fptr (x.2.2.map fun f => (lkM f M').getD 0)] := by
   cases x.2.2.map fun f => (lkM f M').getD 0 <;> exact ⟨rfl, rfl⟩
  have hwo : wv'.cells = [wv'] ∧ wv'.one = true := by rcases ha2 with ⟨e, _⟩ | ⟨k, e, e2, _⟩ <;> subst_vars <;> exact ⟨rfl, rfl⟩
  rw [gval_lp]
  simp -implicitDefEqProofs [hwo.1, hwo.2, f4, f6, f42, f43, f44, hi, hg, part3, pstep, newObj, putCells, ← hS1, loadP_ptr hnew, hx1l, hown, hnew2, hone.1, hone.2, ← hS3, loadP_ptr hcc3, loadP_ptr hx3, elems, setParts, newArr, ha1, hcc3]
  rw [← hS4]
  exact hL2 _ (by simp [f4]) (by simp [f6]) (by simp [f42]) (by simp [f43]) (by simp [hw])
 ·rintro fr S ⟨f4, f6, f42, f43, f44, M, gv, wv, h⟩
  have hL2 : ∀ fr' : Fr, fr' 6 = .ptr c 0 → Ok (gval T K fr' S) Q := fun fr' g6 => hK fr' S M gv wv h g6
  clear hK
  rw [gval_lp]
  simp -implicitDefEqProofs [f4, f6, f42, f43, f44]
  exact hL2 _ (by simp [f6])
end Ps
namespace Ps
set_option linter.unusedSimpArgs false
set_option linter.unusedVariables false
open Go Go.Proofs
def CopyR (S : St) (K : Nat) (D : Dk) (r : Rs) : Prop :=
 ∃ c φ D' S', r = .ret (.ptr c 0) S' ∧ At S' c K D' ∧ CopyOf φ D D' ∧ (∀ (i : Nat) (x : List PV), S.objs[i]? = some x → S'.objs[i]? = some x) ∧ (∀ (k : Nat) (x : Nat × Nat), S.tips[k]? = some x → S'.tips[k]? = some x) ∧ (∀ i, OwnsO D' i → S.objs.length ≤ i) ∧ S.objs.length ≤ c ∧ ∀ k, Owns D' k → S.tips.length ≤ k
def MadeR (S : St) (D : Dk) (r : Rs) : Prop :=
 ∃ c t1 t2 b' l' M gv wv S', r = .ret (.ptr c 0) S' ∧ LW S D c t1 t2 b' l' D.wait.length M gv wv S' ∧ S.objs.length + 2 < c ∧ S.objs.length + 2 < t1 ∧ S.objs.length + 2 < t2 ∧ c ≠ t1 ∧ c ≠ t2 ∧ t1 ≠ t2

theorem made_copy {S : St} {o K : Nat} {D : Dk} (hA : At S o K D) {c t1 t2 : Nat} {b' l' : List (Nm × Nat)} {M : List (Nat × Nat)} {gv : Nat → PV} {wv : PV} {S' : St} (h : LW S D c t1 t2 b' l' D.wait.length M gv wv S') (n1 : S.objs.length + 2 < c) (n2 : S.objs.length + 2 < t1) (n3 : S.objs.length + 2 < t2) (n4 : c ≠ t1) (n5 : c ≠ t2) (n6 : t1 ≠ t2) :
  ∃ x y, CopyR S K D (.ret (.ptr c 0) ⟨S'.objs ++ x, S'.tips ++ y⟩) := by
 have e : D.wait.take D.wait.length = D.wait := List.take_length
 have hsw := h.sw
 have hiw := h.iw
 rw [e] at hsw hiw
 obtain ⟨φ, D', x, y, q1, q2, q3, q4⟩ := copy_at hA h.cp.fs (fun i z hz => h.cp.old i z (by simp) hz) h.cp.tlen (List.getElem?_eq_some_iff.1 h.cp.bo).1 h.cc h.o1 h.o2 hsw h.pb h.pl h.ib h.il hiw ⟨by omega, by omega, by omega⟩ ⟨n4, n5, n6⟩ h.ne h.tw
 refine ⟨x, y, c, φ, D', _, rfl, q1, q2, fun i z hz => ?_, fun k z hz => ?_, q3, by omega, q4⟩
 ·have := h.cp.old i z (by simp) hz
  simp only
  rw [List.getElem?_append_left (List.getElem?_eq_some_iff.1 this).1]; exact this
 ·have := h.cp.told k z hz
  simp only
  rw [List.getElem?_append_left (List.getElem?_eq_some_iff.1 this).1]; exact this

theorem fin_copy {S S1 : St} {c t1 t2 : Nat} {a b d e : PV} {x : Int} (hc : S1.objs[c]? = some [.int .i64 x, .map t1, .map t2, a, b, d, e]) (hn : S.objs.length ≤ c) : finish false S S1 (.ptr c 0) = (.ptr c 0, S1) := by
 have b1 : sol S1.objs S.objs.length 39 (.map t1) = none := rfl
 have b0 : sol S1.objs S.objs.length 39 (.int .i64 x) = some (.int .i64 x) := rfl
 have hs : sol S1.objs S.objs.length 40 (.ptr c 0) = none := by
  rw [sol]
  simp only [PV.free, Bool.false_eq_true, if_false, hn, if_true, hc]
  simp [mapO, b0, b1]
 have hs' : sol S1.objs S.objs.length solFuel (.ptr c 0) = none := hs
 unfold finish
 simp only [Bool.false_eq_true, if_false, hs']

theorem made_spec {S : St} {o K : Nat} {D : Dk} (hA : At S o K D) (hK : K ≤ 1048570) : WSpec tie 462 [.ptr o 0] S (MadeR S D) := by
 have hob := hA.obj
 simp only [dcells] at hob
 have hol := (List.getElem?_eq_some_iff.1 hob).1
 refine W_fn tieOk funcCopy chkCopy rfl ?_
 show W tie copyW.body _ _ _
 unfold copyW
 simp only
 refine W_seq_det tieOk rfl ?_
 simp -implicitDefEqProofs [disk_Disk_Copy_r0]
 refine W_test tieOk rfl ?_
 simp -implicitDefEqProofs [disk_Disk_Copy_r1, loadP_ptr hob, argsFr]
 obtain ⟨S1, hS1⟩ : ∃ S1 : St, S1 = ⟨S.objs ++ [[], [.map S.objs.length], [.fn 463 [.ptr (S.objs.length + 1) 0]], dcells D], S.tips⟩ := ⟨_, rfl⟩
 have hC1 : Cp S none D [] (fun _ => .nils) S1 := by
  have hap : ∀ {i : Nat} {c : List PV}, S.objs[i]? = some c → S1.objs[i]? = some c := fun hc => by rw [hS1]; simp only; rw [List.getElem?_append_left (List.getElem?_eq_some_iff.1 hc).1]; exact hc
  exact { old := fun i c _ hc => hap hc, told := fun k c hc => by rw [hS1]; exact hc, made := by rw [hS1]; simp [pc], bm := by rw [hS1]; simp, bo := by rw [hS1]; simp, fs := { nd := by simp, ng := by simp, src := by simp, dis := by simp, file := by simp } }
 have hc1 : S1.objs[S.objs.length + 3]? = some [.int .i64 D.room, .map D.bi, .map D.li, D.wv, .int .i64 D.left, .int .i64 D.done, .bool D.dark] := by rw [hS1]; simp [dcells]
 have hl1 : S1.objs.length = S.objs.length + 4 := by rw [hS1]; simp
 have hnd1 := hA.hist.1
 have hnd2 := hA.hist.nd
 obtain ⟨n1, n2, n3, n4⟩ := hA.nd
 -- behind the four objects
 have key : ∀ fr : Fr, fr 0 = .ptr o 0 → fr 4 = .ptr (S.objs.length + 2) 0 → fr 5 = .fn 464 [.ptr (S.objs.length + 2) 0] → fr 6 = .ptr (S.objs.length + 3) 0 →
   W tie (.seq (.clr [(24, 39)] (.region copyW_r7)) (.seq (.seq (.clr [(39, 42)] (.region disk_Disk_Copy_r8)) (.block 0 (.loop disk_Disk_Copy_l0))) (.seq (.region disk_Disk_Copy_r14) .ret))) fr S1 (fun e fr' S1 => match e with
   | .exit _ => False
   | .pan v => MadeR S D (.pan (finish false S S1 v).1 (finish false S S1 v).2)
   | _ => MadeR S D (.ret (finish false S S1 (fr' 2)).1 (finish false S S1 (fr' 2)).2)) := by
  intro fr f0 f4 f5 f6
  have hobS : S1.objs[o]? = some [.int .i64 D.room, .map D.bi, .map D.li, D.wv, .int .i64 D.left, .int .i64 D.done, .bool D.dark] := hC1.old o _ (by simp) hob
  refine W_seq (W_clr (W_region tieOk ?_))
  unfold copyW_r7
  refine wops_pre rfl ?_
  simp -implicitDefEqProofs [f0, f4, f5, f6, loadP_ptr hobS, hobS]
  -- the first twin
  refine wops_wc (by simp [wcallee, f5]) (twin_spec hA hC1 hA.base (fun q => (n4 _ q).2.1 rfl) hnd1 hA.inb) ?_ (fun v S' hr => by obtain ⟨_, _, _, _, _, e, _⟩ := hr; cases e)
  rintro v S2 ⟨t1, b', M1, g1, _, e, hC2, hle1, ht1, hb1, hp1, hs1, hn1⟩
  cases e
  have hobS2 : S2.objs[o]? = some [.int .i64 D.room, .map D.bi, .map D.li, D.wv, .int .i64 D.left, .int .i64 D.done, .bool D.dark] := hC2.old o _ (by simp) hob
  refine ⟨fun t ht i off hfr => ?_, ?_⟩
  ·simp only [List.mem_singleton] at ht
   subst ht
   simp [f0] at hfr
   rw [← hfr.1, hobS2, hobS]
  -- the second
  refine wops_wc (by simp [wcallee, f5]) (twin_spec hA hC2 hA.live (fun q => (n4 _ q).2.2 rfl) hnd2 hA.inl) ?_ (fun v S' hr => by obtain ⟨_, _, _, _, _, e, _⟩ := hr; cases e)
  rintro v S3 ⟨t2, l', M2, g2, _, e, hC3, hle2, ht2, hb2, hp2, hs2, hn2⟩
  cases e
  have hobS3 : S3.objs[o]? = some [.int .i64 D.room, .map D.bi, .map D.li, D.wv, .int .i64 D.left, .int .i64 D.done, .bool D.dark] := hC3.old o _ (by simp) hob
  refine ⟨fun t ht i off hfr => ?_, ?_⟩
  ·simp only [List.mem_singleton] at ht
   subst ht
   simp [f0] at hfr
   rw [← hfr.1, hobS3, hobS2]
  have hc3 := hle2.obj _ _ (by omega) (by simp) (hle1.obj _ _ (by omega) (by simp) hc1)
  have hb13 := hle2.obj t1 _ (by omega) (by simp) hb1
  have ht1l := (List.getElem?_eq_some_iff.1 hb1).1
  have ht2l := (List.getElem?_eq_some_iff.1 hb2).1
  have hol1 := hle1.ol
  have hol2 := hle2.ol
  obtain ⟨L, hL⟩ := hle2.pre
  obtain ⟨S4, hS4⟩ : ∃ S4 : St, S4 = ⟨S3.objs.set (S.objs.length + 3) [.int .i64 D.room, .map t1, .map t2, .nils, .int .i64 D.left, .int .i64 D.done, .bool D.dark], S3.tips⟩ := ⟨_, rfl⟩
  have hset : ∀ {j : Nat} {d : List PV}, j ≠ S.objs.length + 3 → S3.objs[j]? = some d → S4.objs[j]? = some d := fun hj hd => by rw [hS4]; simp only; rw [List.getElem?_set_ne (Ne.symm hj)]; exact hd
  have hMn : ∀ q ∈ M2, S.objs.length + 4 ≤ q.2 ∧ q.2 ≠ t1 ∧ q.2 ≠ t2 := fun q hq => by
   refine ⟨?_, ?_, hn2 q hq⟩
   ·by_cases hq1 : q ∈ M1
    ·have := (hle1.new q hq1 (by simp)).1; omega
    ·have := (hle2.new q hq hq1).1; omega
   ·by_cases hq1 : q ∈ M1
    ·exact hn1 q hq1
    ·have := (hle2.new q hq hq1).1; omega
  have hC4 : Cp S none D M2 g2 S4 := hC3.more (fun i c _ hc hi => hset (by
   rcases hi with hi | hi
   ·omega
   ·obtain ⟨q, hq, rfl⟩ := List.mem_map.1 hi
    have := (hMn q hq).1
    omega) hc) (fun k c hc => by rw [hS4]; exact hc) (fun i e => by cases e)
  have hLW : LW S D (S.objs.length + 3) t1 t2 b' l' 0 M2 g2 .nils S4 := {
   cp := hC4
   cc := by rw [hS4]; exact get_set hc3
   o1 := hset (by omega) hb13
   o2 := hset (by omega) hb2
   pb := by rw [hL, toM_app hs1]; exact hp1
   pl := hp2
   ib := fun p hp => by rw [hL]; exact isSome_app (hs1 p hp)
   il := hs2
   iw := fun x hx => by simp at hx
   sw := .inl ⟨rfl, by simp⟩
   tw := fun k hk => by simp [tid] at hk
   ne := fun q hq => by have := hMn q hq; omega }
  have hob4 : S4.objs[o]? = some [.int .i64 D.room, .map D.bi, .map D.li, D.wv, .int .i64 D.left, .int .i64 D.done, .bool D.dark] := hset (by omega) hobS3
  have hrd := slt_reads hA.wv
  have hlen := hrd.len
  rw [List.length_map] at hlen
  have tail : ∀ fr', fr' 0 = .ptr o 0 → fr' 4 = .ptr (S.objs.length + 2) 0 → fr' 6 = .ptr (S.objs.length + 3) 0 → W tie (.seq (.seq (.clr [(39, 42)] (.region disk_Disk_Copy_r8)) (.block 0 (.loop disk_Disk_Copy_l0))) (.seq (.region disk_Disk_Copy_r14) .ret)) fr' S4 (fun e fr' S1 => match e with
   | .exit _ => False
   | .pan v => MadeR S D (.pan (finish false S S1 v).1 (finish false S S1 v).2)
   | _ => MadeR S D (.ret (finish false S S1 (fr' 2)).1 (finish false S S1 (fr' 2)).2)) := by
   intro fr' z0 z4 z6
   refine W_seq_det tieOk rfl ?_
   have hloop := fun (K : List Kt) (Q : Fr → St → Prop) (hK2 : ∀ fr S5 M gv wv, LW S D (S.objs.length + 3) t1 t2 b' l' D.wait.length M gv wv S5 → fr 6 = .ptr (S.objs.length + 3) 0 → Ok (gval T K fr S5) Q) (fr2 : Fr) (y4 : fr2 4 = .ptr (S.objs.length + 2) 0) (y6 : fr2 6 = .ptr (S.objs.length + 3) 0) (y42 : fr2 42 = D.wv) (y43 : fr2 43 = .int .i64 D.wait.length) (y44 : fr2 44 = .int .i64 0) =>
    wait_loop hA hK (c := S.objs.length + 3) (t1 := t1) (t2 := t2) ⟨by omega, by omega, by omega, by omega, by omega⟩ hK2 fr2 S4 M2 g2 .nils hLW y4 y6 y42 y43 y44
   simp -implicitDefEqProofs [disk_Disk_Copy_r8, z0, loadP_ptr hob4, hlen]
   refine hloop [] _ (fun fr3 S5 M5 gv5 wv5 h5 w6 => ?_) _ (by simp [z4]) (by simp [z6]) (by simp) (by simp) (by simp)
   rw [gval_nil]
   refine ok_some.2 ?_
   refine W_ret_det tieOk rfl ?_
   simp -implicitDefEqProofs [disk_Disk_Copy_r14, w6]
   have hf := fin_copy h5.cc (S := S) (by omega)
   simp only [packed, hf]
   exact ⟨_, t1, t2, b', l', M5, gv5, wv5, S5, rfl, h5, by omega, by omega, by omega, by omega, by omega, by omega⟩
  refine wops_end rfl ?_
  have hc3s : ∀ d, (S3.objs.set (S.objs.length + 3) d)[S.objs.length + 3]? = some d := fun d => List.getElem?_set_self (List.getElem?_eq_some_iff.1 hc3).1
  simp -implicitDefEqProofs [f6, pstep, putCells, hc3, hc3s, List.set_set]
  rw [← hS4]
  exact tail _ (by simp [f0]) (by simp [f4]) (by simp [f6])
 refine W_seq_det tieOk rfl ?_
 simp -implicitDefEqProofs [disk_Disk_Copy_r3, pstep, putCells]
 refine W_seq_det tieOk rfl ?_
 simp -implicitDefEqProofs [disk_Disk_Copy_r4, pstep, peval, putCells]
 refine W_seq_det tieOk rfl ?_
 simp -implicitDefEqProofs [disk_Disk_Copy_r5, pstep, peval, putCells]
 refine W_seq_det tieOk rfl ?_
 have hob2 : ({ objs := S.objs ++ [[], [.map S.objs.length], [.fn 463 [.ptr (S.objs.length + 1) 0]]], tips := S.tips } : St).objs[o]? = some [.int .i64 D.room, .map D.bi, .map D.li, D.wv, .int .i64 D.left, .int .i64 D.done, .bool D.dark] := by
  simp only
  rw [List.getElem?_append_left hol]; exact hob
 have hwo : D.wv.one = true := by rcases hA.wv with ⟨e, _⟩ | ⟨k, e, e2, _⟩ <;> rw [‹D.wv = _›] <;> rfl
 simp only [dcells] at hS1
 simp -implicitDefEqProofs [disk_Disk_Copy_r6, pstep, peval, putCells, loadP_ptr hob2, hwo, partOf]
 rw [← hS1]
 refine key _ ?_ ?_ ?_ ?_ <;> simp [argsFr]

theorem copy_spec {S : St} {o K : Nat} {D : Dk} (hA : At S o K D) (hK : K ≤ 1048570) : WSpec tie 462 [.ptr o 0] S (CopyR S K D) := by
 refine (made_spec hA hK).ghost (fun v S1 h => ?_) (fun v S1 h => ?_)
 ·obtain ⟨c, t1, t2, b', l', M, gv, wv, S', e, h1, n1, n2, n3, n4, n5, n6⟩ := h
  cases e
  exact made_copy hA h1 n1 n2 n3 n4 n5 n6
 ·obtain ⟨c, t1, t2, b', l', M, gv, wv, S', e, _⟩ := h
  cases e
end Ps
