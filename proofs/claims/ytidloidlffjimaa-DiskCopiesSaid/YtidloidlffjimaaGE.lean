/- The document's disk: Change, where it is done. -/
import Derived.Test.YtidloidlffjimaaGD
namespace Ps
set_option linter.unusedSimpArgs false
set_option linter.unusedVariables false
open Go
theorem fn_86 : T.fn 86 = some (.code ref04_Change) := rfl

theorem sol_agg {objs : List (List PV)} {n0 k : Nat} {cs ds : List PV} (h : mapO (sol objs n0 (k + 1)) cs = some ds) : sol objs n0 (k + 2) (.agg cs) = some (.agg ds) := by
 rw [sol]
 by_cases hf : (PV.agg cs).free = true
 ·rw [if_pos hf]
  rw [mapO_free' (by simpa [PV.free] using hf)] at h
  cases h; rfl
 ·rw [if_neg hf]
  simp only [h]
theorem sol_tup {objs : List (List PV)} {n0 k : Nat} {cs ds : List PV} (h : mapO (sol objs n0 (k + 1)) cs = some ds) : sol objs n0 (k + 2) (.tup cs) = some (.tup ds) := by
 rw [sol]
 by_cases hf : (PV.tup cs).free = true
 ·rw [if_pos hf]
  rw [mapO_free' (by simpa [PV.free] using hf)] at h
  cases h; rfl
 ·rw [if_neg hf]
  simp only [h]

theorem chunk_map {α : Type} {sz : Nat} (hsz : 2 ≤ sz) {h : α → PV} {l : List α} (hh : ∀ a ∈ l, ∃ c, h a = .agg c ∧ c.length = sz) : chunk sz l.length ((l.map h).flatMap PV.cells) = l.map h := by
 have e1 : (l.map h).flatMap PV.cells = (l.map fun a => (h a).cells).flatten ++ [] := by
  rw [List.flatMap_def, List.map_map, List.append_nil]; rfl
 rw [e1]
 have := chunk_of hsz (l := l.map fun a => (h a).cells) (fun c hc => by
  obtain ⟨a, ha, rfl⟩ := List.mem_map.1 hc
  obtain ⟨c, h1, h2⟩ := hh a ha
  rw [h1]; exact h2) (r := [])
 rw [List.length_map] at this
 rw [this, List.map_map]
 apply List.map_congr_left
 intro a ha
 obtain ⟨c, h1, h2⟩ := hh a ha
 simp [Function.comp, h1]

def Tel (S0 S : St) (bad : List Nat) (v v' : PV) : Prop :=
 ∀ objs', (∀ i x, i ∉ bad → S.objs[i]? = some x → objs'[i]? = some x) → ∀ k, sol objs' S0.objs.length (k + 3) v = some v'

theorem tel_free {S0 S : St} {bad : List Nat} {v : PV} (h : v.free = true) : Tel S0 S bad v v := fun objs' _ k => sol_id h

theorem gacc_tel {S0 S : St} {bad : List Nat} {sz : Nat} {v : PV} {α : Type} {l : List α} {g h : α → PV} (H : GAcc S0 sz S v (l.map g)) (hsz : 2 ≤ sz) (hid : ∀ id, gidV v = some id → id ∉ bad) (hne : v ≠ .nils)
  (hg : ∀ a ∈ l, ∀ objs', (∀ i x, i ∉ bad → S.objs[i]? = some x → objs'[i]? = some x) → ∀ k, mapO (sol objs' S0.objs.length (k + 2)) (g a).cells = some (h a).cells) (hh : ∀ a ∈ l, ∃ c, h a = .agg c ∧ c.length = sz) :
  Tel S0 S bad v (.sl none (l.map h) []) := by
 intro objs' ho k
 rcases H.acc with ⟨hv | hv, he⟩ | ⟨id, h1, rfl, h2, h3⟩
 ·subst hv
  have : l = [] := by simpa using he
  subst this
  exact sol_emp
 ·exact absurd hv hne
 ·have hc := ho id _ (hid id rfl) h2
  have hl := flatl (fun e he => (H.ok e he).1)
  refine sol_osl h1 (by omega) hc hl (flat_all (fun e he => (H.ok e he).2)) (mapO_flat (fun a ha => hg a ha objs' ho k)) ?_
  rw [List.length_map]
  exact chunk_map hsz hh

theorem gacc_tel1 {S0 S : St} {bad : List Nat} {v : PV} {b : List UInt8} (H : GAcc S0 1 S v (ofBytes b)) (hid : ∀ id, gidV v = some id → id ∉ bad) (hne : v ≠ .nils) (objs' : List (List PV)) (ho : ∀ i x, i ∉ bad → S.objs[i]? = some x → objs'[i]? = some x) (k : Nat) :
  sol objs' S0.objs.length (k + 2) v = some (.sl none (ofBytes b) []) := by
 rcases H.acc with ⟨hv | hv, he⟩ | ⟨id, h1, rfl, h2, h3⟩
 ·subst hv
  rw [he]; exact sol_emp
 ·exact absurd hv hne
 ·have hc := ho id _ (hid id rfl) h2
  have hl := flatl (fun e he => (H.ok e he).1)
  have hfm : (ofBytes b).flatMap PV.cells = ofBytes b := by
   have : ∀ l : List UInt8, (ofBytes l).flatMap PV.cells = ofBytes l := by
    intro l
    induction l with
    | nil => rfl
    | cons x l ih =>
     have e : ofBytes (x :: l) = (.int .u8 x.toNat) :: ofBytes l := rfl
     rw [e, List.flatMap_cons, ih]; rfl
   exact this b
  have hfr : PV.freeL (ofBytes b) = true := freeL_map (fun b : UInt8 => PV.int .u8 b.toNat) (fun _ => rfl) b
  rw [hfm] at hc hl
  refine sol_osl h1 (by omega) hc hl (by have := flat_all (fun e he => (H.ok e he).2); rw [hfm] at this; exact this) (mapO_free' hfr) ?_
  have := chunk_one (l := ofBytes b) (r := [])
  rwa [List.append_nil] at this

theorem bytes_ok (b : List UInt8) : ∀ e ∈ ofBytes b, e.cells.length = 1 ∧ e.cells.all PV.one = true := by
 intro e he
 simp only [ofBytes, List.mem_map] at he
 obtain ⟨x, _, rfl⟩ := he
 exact ⟨rfl, rfl⟩

def chSwitch : PCode := (.seq (.seq (.region ref04_Change_r23) (.block 2 (.seq (.clr [(117, 118)] (.region ref04_Change_r24)) (.cond (V 116) (.seq (.clr [(118, 125)] (.region ref04_Change_r25)) (.clr [(125, 129)] (.region ref04_Change_r26))) (.seq (.clr [(130, 131)] (.region ref04_Change_r27)) (.cond (V 129) (.clr [(131, 144)] (.region ref04_Change_r28)) (.seq (.clr [(145, 146)] (.region ref04_Change_r29)) (.cond (V 144) (.clr [(146, 152)] (.region ref04_Change_r30)) (.seq (.clr [(153, 154)] (.region ref04_Change_r31)) (.cond (V 152) (.clr [(154, 159)] (.region ref04_Change_r32)) (.seq (.clr [(160, 161)] (.region ref04_Change_r33)) (.cond (V 159) (.clr [(161, 171)] (.region ref04_Change_r34)) (.seq (.clr [(172, 173)] (.region ref04_Change_r35)) (.cond (V 171) (.seq (.clr [(173, 175)] (.region ref04_Change_r36)) (.region ref04_Change_r37)) .skip)))))))))))))) (.seq (.clr [(175, 179)] (.region ref04_Change_r38)) (.seq (.clr [(179, 180)] (.region ref04_Change_r39)) .ret)))

theorem osl_get {S0 S : St} {sz : Nat} {v : PV} {es : List PV} (H : GAcc S0 sz S v es) (hne : es ≠ []) : ∃ id, S0.objs.length ≤ id ∧ v = .osl id 0 es.length sz ∧ S.objs[id]? = some (es.flatMap PV.cells) := by
 rcases H.acc with ⟨_, he⟩ | ⟨id, h1, h2, h3, _⟩
 ·exact absurd he hne
 ·exact ⟨id, h1, h2, h3⟩

theorem flat_dr {sz : Nat} : ∀ {es : List PV} {i : Nat} {e : PV}, (∀ x ∈ es, x.cells.length = sz) → es[i]? = some e → ∃ r, (es.flatMap PV.cells).drop (i * sz) = e.cells ++ r
 | [], i, e, _, h => by simp at h
 | a :: es, 0, e, hs, h => by
  simp at h; subst h
  exact ⟨es.flatMap PV.cells, by simp [List.flatMap_cons]⟩
 | a :: es, i + 1, e, hs, h => by
  obtain ⟨r, hr⟩ := flat_dr (es := es) (i := i) (fun x hx => hs x (by simp [hx])) (by simpa using h)
  have ha := hs a (by simp)
  refine ⟨r, ?_⟩
  have hmul : (i + 1) * sz = a.cells.length + i * sz := by rw [ha, Nat.add_mul]; omega
  rw [List.flatMap_cons, hmul, List.drop_append, List.drop_of_length_le (by omega), List.nil_append, Nat.add_sub_cancel_left]
  exact hr

theorem change_tail {S S1 : St} (hg : Grows S S1) {fr : Fr} {o1 o2 : Nat} (h1 : S.objs.length ≤ o1) (h2 : S.objs.length ≤ o2) (hne : o1 ≠ o2) {F W x1 x3 : PV} {z : List PV} {R : RD} {K : Nat}
  (ho1 : S1.objs[o1]? = some [.int .i64 R.room, x1, R.bv, x3, .int .i64 R.left, .bool R.dark, .int .i64 R.count]) (ho2 : S1.objs[o2]? = some z) (hz : z.length = 7)
  (f5 : fr 5 = .ptr o1 0) (f10 : fr 10 = .ptr o2 0) (f17 : fr 17 = F) (f18 : fr 18 = W) (oF : F.one = true ∧ F.cells = [F]) (oW : W.one = true ∧ W.cells = [W]) (hF : Tel S S1 [o1, o2] F R.fv) (hW : Tel S S1 [o1, o2] W R.wv) (hR : R.Wf K) :
  Ok (gval T (.ops ref04_Change_r38 :: .clr [(175, 179)] :: [.code (.seq (.clr [(179, 180)] (.region ref04_Change_r39)) .ret)]) fr S1) (Ends [.cell 10 true 7, .tmp 11] false S (.tup [R.v, .int .i64 0]) S) := by
 have ob := hR.bs.one
 have e1 : (S1.objs.set o1 [.int .i64 R.room, F, R.bv, x3, .int .i64 R.left, .bool R.dark, .int .i64 R.count])[o1]? = some [.int .i64 R.room, F, R.bv, x3, .int .i64 R.left, .bool R.dark, .int .i64 R.count] := get_set ho1
 have e2 : (S1.objs.set o1 [.int .i64 R.room, F, R.bv, W, .int .i64 R.left, .bool R.dark, .int .i64 R.count])[o1]? = some [.int .i64 R.room, F, R.bv, W, .int .i64 R.left, .bool R.dark, .int .i64 R.count] := get_set ho1
 have e3 : (S1.objs.set o1 [.int .i64 R.room, F, R.bv, W, .int .i64 R.left, .bool R.dark, .int .i64 R.count])[o2]? = some z := by rw [List.getElem?_set_ne hne]; exact ho2
 have e4 : ((S1.objs.set o1 [.int .i64 R.room, F, R.bv, W, .int .i64 R.left, .bool R.dark, .int .i64 R.count]).set o2 [.int .i64 R.room, F, R.bv, W, .int .i64 R.left, .bool R.dark, .int .i64 R.count])[o2]? = some [.int .i64 R.room, F, R.bv, W, .int .i64 R.left, .bool R.dark, .int .i64 R.count] := get_set e3
 have hput : putCells z 0 [.int .i64 R.room, F, R.bv, W, .int .i64 R.left, .bool R.dark, .int .i64 R.count] = [.int .i64 R.room, F, R.bv, W, .int .i64 R.left, .bool R.dark, .int .i64 R.count] := by simp [putCells, ← hz]
 have hfin : finish false S ⟨(S1.objs.set o1 [.int .i64 R.room, F, R.bv, W, .int .i64 R.left, .bool R.dark, .int .i64 R.count]).set o2 [.int .i64 R.room, F, R.bv, W, .int .i64 R.left, .bool R.dark, .int .i64 R.count], S1.tips⟩
   (.tup [.agg [.int .i64 R.room, F, R.bv, W, .int .i64 R.left, .bool R.dark, .int .i64 R.count], .int .i64 0]) = (.tup [R.v, .int .i64 0], S) := by
  have ha : ∀ i x, i ∉ [o1, o2] → S1.objs[i]? = some x → ((S1.objs.set o1 [.int .i64 R.room, F, R.bv, W, .int .i64 R.left, .bool R.dark, .int .i64 R.count]).set o2 [.int .i64 R.room, F, R.bv, W, .int .i64 R.left, .bool R.dark, .int .i64 R.count])[i]? = some x := by
   intro i x hi hx
   simp only [List.mem_cons, List.not_mem_nil, or_false, not_or] at hi
   rw [List.getElem?_set_ne (Ne.symm hi.2), List.getElem?_set_ne (Ne.symm hi.1)]; exact hx
  rw [fin_grows (r' := .tup [R.v, .int .i64 0]) (S1 := ⟨_, S1.tips⟩) ?_ ?_]
  ·simp [PV.frz, PV.frzL, hR.frz]
  ·obtain ⟨o, t, rfl⟩ := hg
   refine ⟨(o.set (o1 - S.objs.length) [.int .i64 R.room, F, R.bv, W, .int .i64 R.left, .bool R.dark, .int .i64 R.count]).set (o2 - S.objs.length) [.int .i64 R.room, F, R.bv, W, .int .i64 R.left, .bool R.dark, .int .i64 R.count], t, ?_⟩
   simp only [St.mk.injEq, and_true]
   rw [List.set_append_right _ _ h1, List.set_append_right _ _ h2]
  ·refine sol_tup (k := 38) ?_
   have s1 := hF _ ha 35
   have s2 := hW _ ha 35
   have s3 : ∀ {v : PV}, v.free = true → sol ((S1.objs.set o1 [.int .i64 R.room, F, R.bv, W, .int .i64 R.left, .bool R.dark, .int .i64 R.count]).set o2 [.int .i64 R.room, F, R.bv, W, .int .i64 R.left, .bool R.dark, .int .i64 R.count]) S.objs.length 38 v = some v := fun h => sol_id h
   have s4 := sol_agg (objs := (S1.objs.set o1 [.int .i64 R.room, F, R.bv, W, .int .i64 R.left, .bool R.dark, .int .i64 R.count]).set o2 [.int .i64 R.room, F, R.bv, W, .int .i64 R.left, .bool R.dark, .int .i64 R.count]) (n0 := S.objs.length) (k := 37) (cs := [.int .i64 R.room, F, R.bv, W, .int .i64 R.left, .bool R.dark, .int .i64 R.count]) (ds := R.c)
    (by simp only [mapO, s1, s2, s3 hR.bs.free, s3 (v := .int .i64 _) rfl, s3 (v := .bool _) rfl, RD.c])
   simp only [mapO, s4, sol_id (k := 38) (v := .int .i64 0) rfl]
   rfl
 simp -implicitDefEqProofs [f5, f10, f17, f18, pstep, ho1, ho2, e1, e2, e3, putCells, oF.1, oF.2, oW.1, oW.2, get_set ho1, loadP_ptr (S := ⟨_, S1.tips⟩) e2, List.set_set, part7, ob.1, hz]
 have hd : z.drop 7 = [] := List.drop_of_length_le (by omega)
 rw [hd]
 exact ends_ct (by simp [f10, loadP_ptr (S := ⟨_, S1.tips⟩) e4, part7] <;> rfl) (by simp <;> rfl) hfin

def chFiles (R : RD) (kind : Int) (n : Nat) (b : List UInt8) : List RF :=
 if kind = 1 then R.files ++ [⟨.nils, [], 0⟩]
 else if kind = 2 then R.files.modify n (fun f => ⟨.sl none (ofBytes (f.b ++ b)) [], f.b ++ b, f.s⟩)
 else if kind = 5 then R.files.modify n (fun f => ⟨f.bv, f.b, f.b.length⟩) else R.files
def chWait (R : RD) (kind : Int) (name to : Nm) : List RS :=
 if kind = 1 then R.wait ++ [⟨1, name, [], R.files.length⟩]
 else if kind = 3 then R.wait ++ [⟨2, name, to, 0⟩]
 else if kind = 4 then R.wait ++ [⟨3, name, [], 0⟩]
 else if kind = 6 then [] else R.wait
def chD (R : RD) (kind : Int) (name to : Nm) (b : List UInt8) (n : Nat) (lv : PV) : RD :=
 { R with
  files := chFiles R kind n b, fv := .sl none ((chFiles R kind n b).map RF.v) []
  wait := chWait R kind name to, wv := if kind = 6 then .nils else .sl none ((chWait R kind name to).map RS.v) []
  base := if kind = 6 then liveR R else R.base, bv := if kind = 6 then lv else R.bv }

theorem RF.v_ok {f : RF} (h : Sl0 1 f.bv (ofBytes f.b)) : f.v.cells.length = 2 ∧ f.v.cells.all PV.one = true ∧ f.v.free = true ∧ f.v.frz = f.v := by
 refine ⟨rfl, ?_, ?_, ?_⟩
 ·simp [RF.v, h.one.1]
 ·simp [RF.v, PV.free, PV.freeL, h.free]
 ·simp [RF.v, PV.frz, PV.frzL, h.frz]
theorem files_sl {l : List RF} (h : ∀ f ∈ l, Sl0 1 f.bv (ofBytes f.b)) : Sl0 2 (.sl none (l.map RF.v) []) (l.map RF.v) := by
 refine sl0_sl ?_ ?_ ?_
 ·intro e he
  obtain ⟨f, hf, rfl⟩ := List.mem_map.1 he
  rfl
 ·exact freeL_of_mem fun v hv => by
   obtain ⟨f, hf, rfl⟩ := List.mem_map.1 hv
   exact (RF.v_ok (h f hf)).2.2.1
 ·rw [frzL_map, List.map_map]
  exact List.map_congr_left fun f hf => (RF.v_ok (h f hf)).2.2.2
theorem wait_sl (l : List RS) : Sl0 4 (.sl none (l.map RS.v) []) (l.map RS.v) := by
 refine sl0_sl ?_ (freeL_map _ (fun _ => rfl) _) (frzL_map' _ (fun _ => rfl) _)
 intro e he
 obtain ⟨f, hf, rfl⟩ := List.mem_map.1 he
 rfl

theorem bytes_sl (b : List UInt8) : Sl0 1 (.sl none (ofBytes b) []) (ofBytes b) :=
 sl0_sl (fun e he => (bytes_ok b e he).1) (freeL_map (fun b : UInt8 => PV.int .u8 b.toNat) (fun _ => rfl) b) (frzL_map' (fun b : UInt8 => PV.int .u8 b.toNat) (fun _ => rfl) b)

theorem chFiles_mem {R : RD} {kind : Int} {n : Nat} {b : List UInt8} {f : RF} (h : f ∈ chFiles R kind n b) : f ∈ R.files ∨ f = ⟨.nils, [], 0⟩ ∨ ∃ g ∈ R.files, R.files[n]? = some g ∧ ((kind = 2 ∧ f = ⟨.sl none (ofBytes (g.b ++ b)) [], g.b ++ b, g.s⟩) ∨ f = ⟨g.bv, g.b, g.b.length⟩) := by
 have key : ∀ (F : RF → RF) {l : List RF} {n : Nat}, f ∈ l.modify n F → f ∈ l ∨ ∃ g ∈ l, l[n]? = some g ∧ f = F g := by
  intro F l n hm
  obtain ⟨j, hj⟩ := List.getElem?_of_mem hm
  rw [List.getElem?_modify] at hj
  cases hl : l[j]? with
  | none => rw [hl] at hj; simp at hj
  | some g =>
   rw [hl] at hj
   simp only [Option.map_eq_map, Option.map_some, Option.some.injEq] at hj
   split at hj
   ·rename_i e
    subst e
    exact .inr ⟨g, List.mem_of_getElem? hl, hl, hj.symm⟩
   ·subst hj
    exact .inl (List.mem_of_getElem? hl)
 unfold chFiles at h
 split at h
 ·rcases List.mem_append.1 h with h | h
  ·exact .inl h
  ·exact .inr (.inl (by simpa using h))
 ·split at h
  ·rename_i hk
   rcases key _ h with h | ⟨g, h1, h2, h3⟩
   ·exact .inl h
   ·exact .inr (.inr ⟨g, h1, h2, .inl ⟨hk, h3⟩⟩)
  ·split at h
   ·rcases key _ h with h | ⟨g, h1, h2, h3⟩
    ·exact .inl h
    ·exact .inr (.inr ⟨g, h1, h2, .inr h3⟩)
   ·exact .inl h

theorem chD_wf {R : RD} {K : Nat} (h : R.Wf K) {kind : Int} {name to : Nm} {b : List UInt8} {n : Nat} {lv : PV} (hl : Sl0 2 lv ((liveR R).map entR)) (hb : kind = 2 → ∀ f, R.files[n]? = some f → f.b.length + b.length ≤ 4194304) :
  (chD R kind name to b n lv).Wf (K + 1) := by
 have hff : ∀ f ∈ chFiles R kind n b, Sl0 1 f.bv (ofBytes f.b) ∧ 0 ≤ f.s ∧ f.s ≤ f.b.length ∧ f.b.length ≤ 4194304 := by
  intro f hf
  rcases chFiles_mem hf with hf | rfl | ⟨g, h1, h2, h3⟩
  ·exact h.ff f hf
  ·exact ⟨sl0_nils 1, by simp, by simp, by simp⟩
  ·have hg := h.ff g h1
   rcases h3 with ⟨hk, rfl⟩ | rfl
   ·have := hb hk g h2
    exact ⟨bytes_sl _, hg.2.1, by simp; omega, by simp; omega⟩
   ·exact ⟨hg.1, by simp, by simp, hg.2.2.2⟩
 have hlen : (chFiles R kind n b).length ≤ R.files.length + 1 := by
  unfold chFiles
  split
  ·simp
  ·split
   ·simp
   ·split <;> simp
 have hwl : (chWait R kind name to).length ≤ R.wait.length + 1 := by
  unfold chWait
  repeat' split
  all_goals simp
 have h6 := liveR_len h
 have hbl := h.bl
 have hfl := h.fl
 refine ⟨files_sl fun f hf => (hff f hf).1, ?_, ?_, hff, by show (chFiles R kind n b).length ≤ K + 1; omega, ?_, h.rm, ⟨h.ct.1, by have := h.ct.2; show R.count ≤ ((K + 1 : Nat) : Int); omega⟩, h.lf⟩
 ·show Sl0 2 (if kind = 6 then lv else R.bv) ((if kind = 6 then liveR R else R.base).map entR)
  split
  ·exact hl
  ·exact h.bs
 ·show Sl0 4 (if kind = 6 then .nils else .sl none ((chWait R kind name to).map RS.v) []) ((chWait R kind name to).map RS.v)
  split
  ·rename_i e
   have : chWait R kind name to = [] := by subst e; rfl
   rw [this]; exact sl0_nils 4
  ·exact wait_sl _
 ·show (if kind = 6 then liveR R else R.base).length + (chWait R kind name to).length ≤ K + 1
  split
  ·rename_i e
   have : chWait R kind name to = [] := by subst e; rfl
   rw [this]; simp; omega
  ·omega


def fx (p : RF × PV) : PV := .agg [p.2, .int .i64 p.1.s]

theorem fx_ok {p : RF × PV} (h : p.2.one = true) : (fx p).cells.length = 2 ∧ (fx p).cells.all PV.one = true := ⟨rfl, by simp [fx, h]⟩

theorem change_switch {S S1 : St} (hg : Grows S S1) {fr : Fr} {o1 o2 : Nat} (h1 : S.objs.length ≤ o1) (h2 : S.objs.length ≤ o2) (hne : o1 ≠ o2) {F W lv bv : PV} {z : List PV} {R : RD} {K : Nat} {kind : Int} {name to : Nm} {b : List UInt8} {n : Nat}
  (hR : R.Wf K) (hK : K ≤ 1048570) (hl : Sl0 2 lv ((liveR R).map entR)) (hbv : ∀ S, appendedS S 1 bv = some (ofBytes b))
  (hk : 1 ≤ kind ∧ kind ≤ 6) (hn : kind = 2 ∨ kind = 5 → n < R.files.length) (hb : kind = 2 → ∀ f, R.files[n]? = some f → f.b.length + b.length ≤ 4194304)
  (ho1 : S1.objs[o1]? = some R.c) (ho2 : S1.objs[o2]? = some z) (hz : z.length = 7)
  (f1 : fr 1 = .int .i64 kind) (f2 : fr 2 = .str name) (f3 : fr 3 = .str to) (f4 : fr 4 = bv) (f5 : fr 5 = .ptr o1 0) (f10 : fr 10 = .ptr o2 0) (f12 : fr 12 = lv) (f13 : kind = 2 ∨ kind = 5 → fr 13 = .int .i64 (n : Int)) (f17 : fr 17 = F) (f18 : fr 18 = W)
  (gF : GAcc S 2 S1 F (R.files.map RF.v)) (gW : GAcc S 4 S1 W (R.wait.map RS.v)) (nF : F ≠ .nils) (nW : W ≠ .nils) (dF : ∀ i, gidV F = some i → i ≠ o1 ∧ i ≠ o2) (dW : ∀ i, gidV W = some i → i ≠ o1 ∧ i ≠ o2) (dFW : ∀ i, gidV F = some i → gidV W ≠ some i) :
  Ok (gval T [.code chSwitch] fr S1) (Ends [.cell 10 true 7, .tmp 11] false S (.tup [(chD R kind name to b n lv).v, .int .i64 0]) S) := by
 have hw' := chD_wf hR hl hb (name := name) (to := to) (kind := kind) (b := b) (n := n)
 have bigF : R.files.length ≤ 1048570 := Nat.le_trans hR.fl hK
 have bigW : R.wait.length ≤ 1048570 := by have := hR.bl; omega
 have lt1 := (List.getElem?_eq_some_iff.1 ho1).1
 have lt2 := (List.getElem?_eq_some_iff.1 ho2).1
 have oneF : F.one = true ∧ F.cells = [F] := by
  rcases gF.acc with ⟨hv | hv, _⟩ | ⟨id, _, hv, _⟩ <;> subst hv <;> exact ⟨rfl, rfl⟩
 have oneW : W.one = true ∧ W.cells = [W] := by
  rcases gW.acc with ⟨hv | hv, _⟩ | ⟨id, _, hv, _⟩ <;> subst hv <;> exact ⟨rfl, rfl⟩
 have accOne : ∀ {S' : St} {sz : Nat} {v : PV} {es : List PV}, GAcc S sz S' v es → v.one = true ∧ v.cells = [v] := by
  intro S' sz v es h
  rcases h.acc with ⟨hv | hv, _⟩ | ⟨id, _, hv, _⟩ <;> subst hv <;> exact ⟨rfl, rfl⟩
 have lenF : lenP false F = some (.int .i64 R.files.length) := by
  rcases gF.acc with ⟨hv | hv, he⟩ | ⟨id, _, hv, _⟩
  ·subst hv; have : R.files = [] := by simpa using he
   rw [this]; rfl
  ·subst hv; have : R.files = [] := by simpa using he
   rw [this]; rfl
  ·subst hv; simp
 have telF : ∀ {S' : St} {v : PV} {l : List RF}, GAcc S 2 S' v (l.map RF.v) → (∀ f ∈ l, Sl0 1 f.bv (ofBytes f.b)) → v ≠ .nils → (∀ i, gidV v = some i → i ≠ o1 ∧ i ≠ o2) → Tel S S' [o1, o2] v (.sl none (l.map RF.v) []) := by
  intro S' v l H hfr hnn hd
  refine gacc_tel H (by omega) (fun i hi => by have := hd i hi; simp [this.1, this.2]) hnn (fun f hf objs' _ k => mapO_free' ?_) (fun f hf => ⟨_, rfl, rfl⟩)
  have := (RF.v_ok (hfr f hf)).2.2.1
  simpa [RF.v, PV.free] using this
 have telW : ∀ {S' : St} {v : PV} {l : List RS}, GAcc S 4 S' v (l.map RS.v) → v ≠ .nils → (∀ i, gidV v = some i → i ≠ o1 ∧ i ≠ o2) → Tel S S' [o1, o2] v (.sl none (l.map RS.v) []) := by
  intro S' v l H hnn hd
  exact gacc_tel H (by omega) (fun i hi => by have := hd i hi; simp [this.1, this.2]) hnn (fun f hf objs' _ k => mapO_free' rfl) (fun f hf => ⟨_, rfl, rfl⟩)
 have keepAcc : ∀ {S' S'' : St} {sz : Nat} {v : PV} {es : List PV}, GAcc S sz S' v es → (∀ i x, S'.objs[i]? = some x → gidV v = some i → S''.objs[i]? = some x) → GAcc S sz S'' v es := by
  intro S' S'' sz v es H hk
  refine ⟨?_, H.ok⟩
  rcases H.acc with h | ⟨id, a1, a2, a3, a4⟩
  ·exact .inl h
  ·exact .inr ⟨id, a1, a2, hk id _ a3 (by rw [a2]; rfl), a4⟩
 have gid_lt : ∀ {S' : St} {sz : Nat} {v : PV} {es : List PV}, GAcc S sz S' v es → ∀ i, gidV v = some i → i < S'.objs.length := by
  intro S' sz v es H i hi
  rcases H.acc with ⟨hv | hv, _⟩ | ⟨id, _, hv, a3, _⟩
  ·subst hv; cases hi
  ·subst hv; cases hi
  ·subst hv; cases hi; exact (List.getElem?_eq_some_iff.1 a3).1
 have ffr : ∀ f ∈ R.files, Sl0 1 f.bv (ofBytes f.b) := fun f hf => (hR.ff f hf).1
 have waitOk : ∀ s : RS, ∀ e ∈ [s.v], e.cells.length = 4 ∧ e.cells.all PV.one = true := by
  intro s e he
  simp at he; subst he; exact ⟨rfl, rfl⟩
 obtain ⟨room, fv, files, bvv, base, wv, wait, left, dark, count⟩ := R
 simp only [RD.c] at ho1
 simp only at lenF bigF bigW
 unfold chSwitch
 by_cases k1 : kind = 1
 ·subst k1
  -- the wait's array first, then the files'
  obtain ⟨W', S2, a1, a2, a3, a4, a5, a6, a7, a8⟩ := (keepAcc (S'' := ⟨S1.objs, S1.tips ++ [(1, 4)]⟩) gW (fun i x h _ => h)).app (bytes := 48) (new := [RS.v ⟨1, name, [], files.length⟩]) (hg.arrs _) (by omega) (waitOk _) (by simp; omega)
  have gF2 : GAcc S 2 ⟨S2.objs, S2.tips ++ [(1, 2)]⟩ F (files.map RF.v) := keepAcc gF (fun i x h hi => a6 i x h (dFW i hi))
  obtain ⟨F', S3, b1, b2, b3, b4, b5, b6, b7, b8⟩ := gF2.app (bytes := 32) (new := [RF.v ⟨.nils, [], 0⟩]) (a3.arrs _) (by omega) (by intro e he; simp at he; subst he; exact ⟨rfl, rfl⟩) (by simp; omega)
  have hW1 : ∀ i, gidV W' = some i → i ≠ o1 ∧ i ≠ o2 ∧ gidV F ≠ some i := by
   intro i hi
   by_cases hlt : i < S1.objs.length
   ·have hw := a7 i hi hlt
    exact ⟨(dW i hw).1, (dW i hw).2, fun hf => dFW i hf hw⟩
   ·exact ⟨by omega, by omega, fun hf => hlt (gid_lt gF i hf)⟩
  have hF1 : ∀ i, gidV F' = some i → i ≠ o1 ∧ i ≠ o2 := by
   intro i hi
   by_cases hlt : i < S2.objs.length
   ·exact dF i (b7 i hi hlt)
   ·simp only at a5; omega
  have gW3 : GAcc S 4 S3 W' ((wait ++ [(⟨1, name, [], files.length⟩ : RS)]).map RS.v) := by
   rw [List.map_append]
   exact keepAcc a2 (fun i x h hi => b6 i x h (hW1 i hi).2.2)
  have gF3 : GAcc S 2 S3 F' ((files ++ [(⟨.nils, [], 0⟩ : RF)]).map RF.v) := by rw [List.map_append]; exact b2
  have nn : ∀ {S' : St} {sz : Nat} {v : PV} {es : List PV}, GAcc S sz S' v es → es ≠ [] → v ≠ .nils := fun H hne e => by
   obtain ⟨id, _, h, _⟩ := osl_get H hne
   rw [e] at h; cases h
  have p1 : S3.objs[o1]? = some [.int .i64 room, fv, bvv, wv, .int .i64 left, .bool dark, .int .i64 count] := b6 o1 _ (a6 o1 _ ho1 (fun h => (dW o1 h).1 rfl)) (fun h => (dF o1 h).1 rfl)
  have p2 : S3.objs[o2]? = some z := b6 o2 _ (a6 o2 _ ho2 (fun h => (dW o2 h).2 rfl)) (fun h => (dF o2 h).2 rfl)
  have hL : ∀ fr', fr' 5 = .ptr o1 0 → fr' 10 = .ptr o2 0 → fr' 17 = F' → fr' 18 = W' → Ok (gval T (.ops ref04_Change_r38 :: .clr [(175, 179)] :: [.code (.seq (.clr [(179, 180)] (.region ref04_Change_r39)) .ret)]) fr' S3) (Ends [.cell 10 true 7, .tmp 11] false S (.tup [(chD ⟨room, fv, files, bvv, base, wv, wait, left, dark, count⟩ 1 name to b n lv).v, .int .i64 0]) S) := by
   intro fr' g5 g10 g17 g18
   exact change_tail b3 h1 h2 hne (R := chD ⟨room, fv, files, bvv, base, wv, wait, left, dark, count⟩ 1 name to b n lv) p1 p2 hz g5 g10 g17 g18 (accOne gF3) (accOne gW3)
    (telF gF3 (fun f hf => by rcases List.mem_append.1 hf with hf | hf; exact ffr f hf; simp at hf; subst hf; exact sl0_nils 1) (nn gF3 (by simp)) hF1)
    (telW gW3 (nn gW3 (by simp)) (fun i hi => ⟨(hW1 i hi).1, (hW1 i hi).2.1⟩)) hw'
  simp only [RS.v] at a1
  simp only [RF.v] at b1
  generalize hrr : PV.tup [RD.v _, PV.int .i64 0] = rr
  simp -implicitDefEqProofs [-ref04_Change_r38_go, -List.length_flatMap, f1, f2, f3, f4, f17, f18, lenF, pstep, peval, fillParts, putCells, elems, setParts, a1, b1]
  subst hrr
  exact hL _ (by simp [f5]) (by simp [f10]) (by simp) (by simp)
 have nn : ∀ {S' : St} {sz : Nat} {v : PV} {es : List PV}, GAcc S sz S' v es → es ≠ [] → v ≠ .nils := fun H hne e => by
  obtain ⟨id, _, h, _⟩ := osl_get H hne
  rw [e] at h; cases h
 have e1 : (kind == 1) = false := by simpa using k1
 by_cases k34 : kind = 3 ∨ kind = 4
 ·-- the wait's array alone
  obtain ⟨s, hs⟩ : ∃ s : RS, s = if kind = 3 then ⟨2, name, to, 0⟩ else ⟨3, name, [], 0⟩ := ⟨_, rfl⟩
  obtain ⟨W', S2, a1, a2, a3, a4, a5, a6, a7, a8⟩ := (keepAcc (S'' := ⟨S1.objs, S1.tips ++ [(1, 4)]⟩) gW (fun i x h _ => h)).app (bytes := 48) (new := [RS.v s]) (hg.arrs _) (by omega) (waitOk _) (by simp; omega)
  have gF2 : GAcc S 2 S2 F (files.map RF.v) := keepAcc gF (fun i x h hi => a6 i x h (dFW i hi))
  have hW1 : ∀ i, gidV W' = some i → i ≠ o1 ∧ i ≠ o2 := by
   intro i hi
   by_cases hlt : i < S1.objs.length
   ·exact dW i (a7 i hi hlt)
   ·exact ⟨by omega, by omega⟩
  have gW3 : GAcc S 4 S2 W' ((wait ++ [s]).map RS.v) := by rw [List.map_append]; exact a2
  have p1 : S2.objs[o1]? = some [.int .i64 room, fv, bvv, wv, .int .i64 left, .bool dark, .int .i64 count] := a6 o1 _ ho1 (fun h => (dW o1 h).1 rfl)
  have p2 : S2.objs[o2]? = some z := a6 o2 _ ho2 (fun h => (dW o2 h).2 rfl)
  have eD : chD ⟨room, fv, files, bvv, base, wv, wait, left, dark, count⟩ kind name to b n lv = ⟨room, .sl none (files.map RF.v) [], files, bvv, base, .sl none ((wait ++ [s]).map RS.v) [], wait ++ [s], left, dark, count⟩ := by
   rcases k34 with rfl | rfl <;> simp [chD, chFiles, chWait, hs]
  rw [eD] at hw' ⊢
  have hL := fun (fr' : Fr) (g5 : fr' 5 = .ptr o1 0) (g10 : fr' 10 = .ptr o2 0) (g17 : fr' 17 = F) (g18 : fr' 18 = W') =>
   change_tail a3 h1 h2 hne p1 p2 hz g5 g10 g17 g18 (accOne gF2) (accOne gW3) (telF gF2 ffr nF dF) (telW gW3 (nn gW3 (by simp)) hW1) hw'
  rcases k34 with rfl | rfl
  ·simp only [if_true] at hs
   subst hs
   simp only [RS.v] at a1
   generalize hrr : PV.tup [RD.v _, PV.int .i64 0] = rr
   simp -implicitDefEqProofs [-ref04_Change_r38_go, -List.length_flatMap, f1, f2, f3, f4, f17, f18, pstep, peval, fillParts, putCells, elems, setParts, a1]
   subst hrr
   exact hL _ (by simp [f5]) (by simp [f10]) (by simp [f17]) (by simp)
  ·simp only [show ¬ ((4 : Int) = 3) by omega, if_false] at hs
   subst hs
   simp only [RS.v] at a1
   generalize hrr : PV.tup [RD.v _, PV.int .i64 0] = rr
   simp -implicitDefEqProofs [-ref04_Change_r38_go, -List.length_flatMap, f1, f2, f3, f4, f17, f18, pstep, peval, fillParts, putCells, elems, setParts, a1]
   subst hrr
   exact hL _ (by simp [f5]) (by simp [f10]) (by simp [f17]) (by simp)
 by_cases k6 : kind = 6
 ·subst k6
  have eD : chD ⟨room, fv, files, bvv, base, wv, wait, left, dark, count⟩ 6 name to b n lv = ⟨room, .sl none (files.map RF.v) [], files, lv, liveR ⟨room, fv, files, bvv, base, wv, wait, left, dark, count⟩, .nils, [], left, dark, count⟩ := by
   simp [chD, chFiles, chWait]
  rw [eD] at hw' ⊢
  have gF2 : GAcc S 2 ⟨S1.objs.set o1 [.int .i64 room, fv, lv, wv, .int .i64 left, .bool dark, .int .i64 count], S1.tips⟩ F (files.map RF.v) := keepAcc gF (fun i x h hi => by
   rw [List.getElem?_set_ne (Ne.symm (dF i hi).1)]; exact h)
  have p1 : (S1.objs.set o1 [.int .i64 room, fv, lv, wv, .int .i64 left, .bool dark, .int .i64 count])[o1]? = some [.int .i64 room, fv, lv, wv, .int .i64 left, .bool dark, .int .i64 count] := get_set ho1
  have p2 : (S1.objs.set o1 [.int .i64 room, fv, lv, wv, .int .i64 left, .bool dark, .int .i64 count])[o2]? = some z := by rw [List.getElem?_set_ne hne]; exact ho2
  have hg2 : Grows S ⟨S1.objs.set o1 [.int .i64 room, fv, lv, wv, .int .i64 left, .bool dark, .int .i64 count], S1.tips⟩ := by
   obtain ⟨o, tt, rfl⟩ := hg
   exact ⟨o.set (o1 - S.objs.length) _, tt, by simp only [St.mk.injEq, and_true]; rw [List.set_append_right _ _ h1]⟩
  have hL := fun (fr' : Fr) (g5 : fr' 5 = .ptr o1 0) (g10 : fr' 10 = .ptr o2 0) (g17 : fr' 17 = F) (g18 : fr' 18 = .nils) =>
   change_tail hg2 h1 h2 hne p1 p2 hz g5 g10 g17 g18 (accOne gF2) ⟨rfl, rfl⟩ (telF gF2 ffr nF dF) (tel_free rfl) hw'
  generalize hrr : PV.tup [RD.v _, PV.int .i64 0] = rr
  simp -implicitDefEqProofs [-ref04_Change_r38_go, -List.length_flatMap, f1, f2, f3, f4, f5, f12, f17, f18, pstep, putCells, ho1, hl.one.1, hl.one.2]
  subst hrr
  exact hL _ (by simp [f5]) (by simp [f10]) (by simp [f17]) (by simp)
 -- a file turns
 have k25 : kind = 2 ∨ kind = 5 := by omega
 have hnl := hn k25
 simp only at hnl
 have f13 := f13 k25
 have hne0 : files.map RF.v ≠ [] := by
  intro e
  have : files = [] := by simpa using e
  rw [this] at hnl; simp at hnl
 obtain ⟨id, i1, rfl, i3⟩ := osl_get gF hne0
 obtain ⟨f, hf⟩ : ∃ f, files[n]? = some f := ⟨_, List.getElem?_eq_getElem hnl⟩
 have hsl := ffr f (List.mem_of_getElem? hf)
 obtain ⟨r, hr⟩ := flat_dr (i := n) (fun e he => (gF.ok e he).1) (show (files.map RF.v)[n]? = some f.v by rw [List.getElem?_map, hf]; rfl)
 rw [RF.v_cells] at hr
 have hfl := flatl (fun e he => (gF.ok e he).1)
 rw [List.length_map] at hfl
 have dF' := dF id rfl
 have hload : loadP S1 false 1 (.ptr id (n * 2)) = some f.bv := by rw [loadP_ptr i3, hr]; simp [partOf]
 have hlt : ((n : Int) < (files.length : Int)) := by omega
 have noW : gidV W ≠ some id := dFW id rfl
 rcases k25 with rfl | rfl
 ·obtain ⟨X1, S2, a1, a2, a3, a4, a5, a6, a7, a8⟩ := (show GAcc S 1 S1 .emp [] from ⟨.inl ⟨.inl rfl, rfl⟩, by simp⟩).app (bytes := 1) (new := ofBytes f.b) hg (by omega) (bytes_ok _) (by have := (hR.ff f (List.mem_of_getElem? hf)).2.2.2; simp [ofBytes]; omega)
  have hbl : f.b.length + b.length ≤ 4194304 := hb rfl f hf
  rw [List.nil_append] at a2
  obtain ⟨X2, S3, b1, b2, b3, b4, b5, b6, b7, b8⟩ := a2.app (bytes := 1) (new := ofBytes b) a3 (by omega) (bytes_ok _) (by simp [ofBytes]; omega)
  rw [show ofBytes f.b ++ ofBytes b = ofBytes (f.b ++ b) by simp [ofBytes]] at b2
  have idlt : id < S1.objs.length := (List.getElem?_eq_some_iff.1 i3).1
  have x1n : ∀ i, gidV X1 = some i → S1.objs.length ≤ i := by
   intro i hi
   by_cases hlt : i < S1.objs.length
   ·have := a7 i hi hlt; cases this
   ·omega
  have x2n : ∀ i, gidV X2 = some i → S1.objs.length ≤ i := by
   intro i hi
   by_cases hlt : i < S2.objs.length
   ·exact x1n i (b7 i hi hlt)
   ·omega
  have keep : ∀ i x, i < S1.objs.length → S1.objs[i]? = some x → S3.objs[i]? = some x := fun i x hi h =>
   b6 i x (a6 i x h (fun e => by cases e)) (fun e => by have := x1n i e; omega)
  have X1nn : X1 ≠ .nils := a8 (fun e => by cases e)
  have X2nn : X2 ≠ .nils := b8 X1nn
  have oX1 := accOne a2
  have oX2 := accOne b2
  let L : List (RF × PV) := (files.map fun g => (g, g.bv)).set n (⟨.sl none (ofBytes (f.b ++ b)) [], f.b ++ b, f.s⟩, X2)
  have hset : (files.map RF.v).set n (fx (⟨.sl none (ofBytes (f.b ++ b)) [], f.b ++ b, f.s⟩, X2)) = L.map fx := by
   show _ = ((files.map fun g => (g, g.bv)).set n _).map fx
   rw [List.map_set, List.map_map]
   rfl
  have hmod : L.map (fun p => p.1.v) = (files.modify n fun g => ⟨.sl none (ofBytes (g.b ++ b)) [], g.b ++ b, g.s⟩).map RF.v := by
   show ((files.map fun g => (g, g.bv)).set n _).map (fun p => p.1.v) = _
   apply List.ext_getElem?
   intro i
   rw [List.getElem?_map, List.getElem?_map, List.getElem?_modify, List.getElem?_set, List.getElem?_map]
   by_cases hi : n = i
   ·subst hi
    have : files[n] = f := by
     have := hf; rw [List.getElem?_eq_getElem hnl] at this; cases this; rfl
    simp [hnl, this]
   ·simp [hi]
    rfl
  have eD : chD ⟨room, fv, files, bvv, base, wv, wait, left, dark, count⟩ 2 name to b n lv = ⟨room, .sl none (L.map (fun p => p.1.v)) [], files.modify n fun g => ⟨.sl none (ofBytes (g.b ++ b)) [], g.b ++ b, g.s⟩, bvv, base, .sl none (wait.map RS.v) [], wait, left, dark, count⟩ := by
   rw [hmod]; simp [chD, chFiles, chWait]
  rw [eD] at hw' ⊢
  have i3' := keep id _ idlt i3
  have hput := flat_set1 (i := n) (e' := fx (⟨.sl none (ofBytes (f.b ++ b)) [], f.b ++ b, f.s⟩, X2)) (fun e he => (gF.ok e he).1) (show (files.map RF.v)[n]? = some f.v by rw [List.getElem?_map, hf]; rfl) rfl (j := 0) (c := [X2]) (by simp) rfl
  rw [hset] at hput
  obtain ⟨cs', hcs'⟩ : ∃ cs', cs' = (L.map fx).flatMap PV.cells := ⟨_, rfl⟩
  have hLmem : ∀ p ∈ L, (∃ g ∈ files, p = (g, g.bv)) ∨ p = (⟨.sl none (ofBytes (f.b ++ b)) [], f.b ++ b, f.s⟩, X2) := by
   intro p hp
   rcases List.mem_or_eq_of_mem_set hp with hp | hp
   ·obtain ⟨g, hg, rfl⟩ := List.mem_map.1 hp
    exact .inl ⟨g, hg, rfl⟩
   ·exact .inr hp
  have gF2 : GAcc S 2 ⟨S3.objs.set id cs', S3.tips⟩ (.osl id 0 (files.map RF.v).length 2) (L.map fx) := by
   refine ⟨.inr ⟨id, i1, by simp [L], by simp only; rw [hcs']; exact get_set i3', ?_⟩, fun e he => ?_⟩
   ·intro e
    have := congrArg List.length e
    simp [L] at this
    exact hne0 (by rw [this]; rfl)
   ·obtain ⟨p, hp, rfl⟩ := List.mem_map.1 he
    rcases hLmem p hp with ⟨g, hg, rfl⟩ | rfl
    ·exact fx_ok (ffr g hg).one.1
    ·exact fx_ok oX2.1
  have X2set : GAcc S 1 ⟨S3.objs.set id cs', S3.tips⟩ X2 (ofBytes (f.b ++ b)) := keepAcc b2 (fun i x h hi => by
   have := x2n i hi
   rw [List.getElem?_set_ne (by omega)]; exact h)
  have tF : Tel S ⟨S3.objs.set id cs', S3.tips⟩ [o1, o2] (.osl id 0 (files.map RF.v).length 2) (.sl none (L.map (fun p => p.1.v)) []) := by
   refine gacc_tel gF2 (by omega) (fun i hi => by have := dF i hi; simp [this.1, this.2]) (fun e => by cases e) (fun p hp objs' ho k => ?_) (fun p hp => ⟨_, rfl, rfl⟩)
   rcases hLmem p hp with ⟨g, hg, rfl⟩ | rfl
   ·refine mapO_free' ?_
    have := (RF.v_ok (ffr g hg)).2.2.1
    simpa [fx, RF.v, PV.free] using this
   ·have := gacc_tel1 X2set (bad := [o1, o2]) (fun i hi => by have := x2n i hi; simp; omega) X2nn objs' ho k
    simp only [fx, PV.cells, mapO, this, sol_id (k := k + 1) (v := .int .i64 f.s) rfl]
    rfl
  have gW2 : GAcc S 4 ⟨S3.objs.set id cs', S3.tips⟩ W (wait.map RS.v) := keepAcc gW (fun i x h hi => by
   rw [List.getElem?_set_ne (fun e => noW (by rw [e]; exact hi))]
   exact keep i x (gid_lt gW i hi) h)
  have p1 : (S3.objs.set id cs')[o1]? = some [.int .i64 room, fv, bvv, wv, .int .i64 left, .bool dark, .int .i64 count] := by rw [List.getElem?_set_ne dF'.1]; exact keep o1 _ lt1 ho1
  have p2 : (S3.objs.set id cs')[o2]? = some z := by rw [List.getElem?_set_ne dF'.2]; exact keep o2 _ lt2 ho2
  have hg2 : Grows S ⟨S3.objs.set id cs', S3.tips⟩ := by
   obtain ⟨o, tt, e⟩ := b3
   rw [e]
   exact ⟨o.set (id - S.objs.length) _, tt, by simp only [St.mk.injEq, and_true]; rw [List.set_append_right _ _ i1]⟩
  have hL := fun (fr' : Fr) (g5 : fr' 5 = .ptr o1 0) (g10 : fr' 10 = .ptr o2 0) (g17 : fr' 17 = .osl id 0 (files.map RF.v).length 2) (g18 : fr' 18 = W) =>
   change_tail hg2 h1 h2 hne p1 p2 hz g5 g10 g17 g18 (accOne gF2) (accOne gW2) tF (telW gW2 nW dW) hw'
  have q1 := hsl.appd S1
  have q2 := hbv S2
  have hle1 : n * 2 + 0 + 1 ≤ ((files.map RF.v).flatMap PV.cells).length := by rw [hfl]; omega
  simp only [Nat.add_zero] at hput hle1
  generalize hrr : PV.tup [RD.v _, PV.int .i64 0] = rr
  simp -implicitDefEqProofs [-ref04_Change_r38_go, -List.length_flatMap, f1, f4, f13, f17, f18, hlt, hload, q1, q2, a1, b1, pstep, i3', oX2.1, oX2.2, hle1, hput]
  rw [← hcs']
  simp only [List.length_map] at hL
  subst hrr
  exact hL _ (by simp [f5]) (by simp [f10]) (by simp [f17]) (by simp [f18])
 ·have eD : chD ⟨room, fv, files, bvv, base, wv, wait, left, dark, count⟩ 5 name to b n lv = ⟨room, .sl none ((files.modify n fun f => ⟨f.bv, f.b, f.b.length⟩).map RF.v) [], files.modify n fun f => ⟨f.bv, f.b, f.b.length⟩, bvv, base, .sl none (wait.map RS.v) [], wait, left, dark, count⟩ := by
   simp [chD, chFiles, chWait]
  rw [eD] at hw' ⊢
  have hset : (files.map RF.v).set n (RF.v ⟨f.bv, f.b, f.b.length⟩) = (files.modify n fun f => ⟨f.bv, f.b, f.b.length⟩).map RF.v := by
   apply List.ext_getElem?
   intro i
   rw [List.getElem?_map, List.getElem?_modify, List.getElem?_set]
   by_cases hi : n = i
   ·subst hi
    have : files[n] = f := by
     have := hf; rw [List.getElem?_eq_getElem hnl] at this; cases this; rfl
    simp [hnl, this]
   ·simp [hi]
  have hput := flat_set1 (i := n) (e' := RF.v ⟨f.bv, f.b, f.b.length⟩) (fun e he => (gF.ok e he).1) (show (files.map RF.v)[n]? = some f.v by rw [List.getElem?_map, hf]; rfl) rfl (j := 1) (c := [.int .i64 (f.b.length : Int)]) (by simp) rfl
  rw [hset] at hput
  obtain ⟨cs', hcs'⟩ : ∃ cs', cs' = ((files.modify n fun f => ⟨f.bv, f.b, f.b.length⟩).map RF.v).flatMap PV.cells := ⟨_, rfl⟩
  have hff' : ∀ g ∈ files.modify n (fun f => (⟨f.bv, f.b, f.b.length⟩ : RF)), Sl0 1 g.bv (ofBytes g.b) := fun g hg => (hw'.ff g hg).1
  have gF2 : GAcc S 2 ⟨S1.objs.set id cs', S1.tips⟩ (.osl id 0 (files.map RF.v).length 2) ((files.modify n fun f => ⟨f.bv, f.b, f.b.length⟩).map RF.v) := by
   refine ⟨.inr ⟨id, i1, by simp, by simp only; rw [hcs']; exact get_set i3, by simpa using hne0⟩, fun e he => ?_⟩
   obtain ⟨g, hg, rfl⟩ := List.mem_map.1 he
   exact ⟨rfl, (RF.v_ok (hff' g hg)).2.1⟩
  have gW2 : GAcc S 4 ⟨S1.objs.set id cs', S1.tips⟩ W (wait.map RS.v) := keepAcc gW (fun i x h hi => by
   rw [List.getElem?_set_ne (fun e => noW (by rw [e]; exact hi))]; exact h)
  have p1 : (S1.objs.set id cs')[o1]? = some [.int .i64 room, fv, bvv, wv, .int .i64 left, .bool dark, .int .i64 count] := by rw [List.getElem?_set_ne dF'.1]; exact ho1
  have p2 : (S1.objs.set id cs')[o2]? = some z := by rw [List.getElem?_set_ne dF'.2]; exact ho2
  have hg2 : Grows S ⟨S1.objs.set id cs', S1.tips⟩ := by
   obtain ⟨o, tt, rfl⟩ := hg
   exact ⟨o.set (id - S.objs.length) _, tt, by simp only [St.mk.injEq, and_true]; rw [List.set_append_right _ _ i1]⟩
  have hL := fun (fr' : Fr) (g5 : fr' 5 = .ptr o1 0) (g10 : fr' 10 = .ptr o2 0) (g17 : fr' 17 = .osl id 0 (files.map RF.v).length 2) (g18 : fr' 18 = W) =>
   change_tail hg2 h1 h2 hne p1 p2 hz g5 g10 g17 g18 (accOne gF2) (accOne gW2) (telF gF2 hff' (fun e => by cases e) dF) (telW gW2 nW dW) hw'
  have hlenb := hsl.len
  rw [show (ofBytes f.b).length = f.b.length by simp [ofBytes]] at hlenb
  have hle1 : n * 2 + 1 + 1 ≤ ((files.map RF.v).flatMap PV.cells).length := by rw [hfl]; omega
  generalize hrr : PV.tup [RD.v _, PV.int .i64 0] = rr
  simp -implicitDefEqProofs [-ref04_Change_r38_go, -List.length_flatMap, f1, f13, f17, f18, hlt, hload, hlenb, pstep, i3, hle1, hput]
  rw [← hcs']
  simp only [List.length_map] at hL
  subst hrr
  exact hL _ (by simp [f5]) (by simp [f10]) (by simp [f17]) (by simp [f18])
end Ps
