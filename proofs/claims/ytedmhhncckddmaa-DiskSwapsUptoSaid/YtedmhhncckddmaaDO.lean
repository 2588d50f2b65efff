/- The disk: calls that come in; begun. -/
import Derived.Test.YtedmhhncckddmaaTie
import Derived.Test.YtedmhhncckddmaaDN
namespace Ps
set_option linter.unusedSimpArgs false
set_option linter.unusedVariables false
open Go
theorem lives_run : pcall T 3000 18 [] St0 = some (.bool true, St0) := by kernel_rfl

theorem fn_18 : T.fn 18 = some (.code law04_lives) := rfl
theorem fn_466 : T.fn 466 = some (.code law04_begun) := rfl
theorem fn_91 : T.fn 91 = some (.code law04_same) := rfl
theorem fn_468 : T.fn 468 = some (.code law04_begins) := rfl
theorem lives_pval : pval T 18 [] = some (.bool true) := pval_st (cval_of 3000 lives_run) rfl rfl

/-- Calls al they come in. -/
abbrev tyAct : Ty := .st (.pair (.int .i64) (.pair .str (.pair .str (.pair (.sl (.int .u8)) (.pair (.int .i64) (.pair (.sl (.int .i64)) .unit))))))
def inB (x : (Ty.sl (.int .u8)).den) : List UInt8 := match x with | none => [] | some q => q.1.map fun n => UInt8.ofNat (Int.toNat n)
def inK (x : (Ty.sl (.int .i64)).den) : List Int := match x with | none => [] | some q => q.1
def actOf (x : tyAct.den) : ActD := ⟨x.1, x.2.1, x.2.2.1, inB x.2.2.2.1, (Ty.sl (.int .u8)).pv x.2.2.2.1, x.2.2.2.2.1, inK x.2.2.2.2.2.1, (Ty.sl (.int .i64)).pv x.2.2.2.2.2.1⟩
def inA (x : (Ty.sl tyAct).den) : List ActD := match x with | none => [] | some q => q.1.map actOf

theorem sl_one {e : Ty} (x : (Ty.sl e).den) : ((Ty.sl e).pv x).one = true ∧ ((Ty.sl e).pv x).cells = [(Ty.sl e).pv x] := by
  cases x with
  | none => exact ⟨rfl, rfl⟩
  | some q => exact ⟨rfl, rfl⟩
theorem inB_isl {x : (Ty.sl (.int .u8)).den} (h : (Ty.sl (.int .u8)).wf x) : IsSl 1 ((Ty.sl (.int .u8)).pv x) (ofBytes (inB x)) := by
  cases x with
  | none => exact .inl ⟨rfl, rfl⟩
  | some q =>
    obtain ⟨es, sp⟩ := q
    have key : ∀ l : List Int, (∀ n ∈ l, (Lit.int .u8 n).wf = true) → ofBytes (l.map fun n => UInt8.ofNat n.toNat) = l.map fun n => PV.int .u8 n := by
      intro l hl
      induction l with
      | nil => rfl
      | cons n l ih =>
        have hn := hl n (by simp)
        simp only [Lit.wf, Bool.and_eq_true, decide_eq_true_eq] at hn
        have h1 : 0 ≤ n ∧ n ≤ 255 := by simpa [IntKind.min, IntKind.max, IntKind.signed, IntKind.bits] using hn
        have h2 : ((UInt8.ofNat n.toNat).toNat : Int) = n := by
          have : n.toNat < 256 := by omega
          simp [Nat.mod_eq_of_lt this]; omega
        simp only [ofBytes, List.map_cons, h2] at ih ⊢
        rw [ih (fun m hm => hl m (by simp [hm]))]
    refine .inr ⟨none, sp.map fun n => PV.int .u8 n, ?_, ?_⟩
    · show PV.sl none (es.map fun n => PV.int .u8 n) (sp.map fun n => PV.int .u8 n) = _
      rw [← key es h.2.1]; rfl
    · intro e he
      rcases List.mem_append.1 he with he | he
      · simp only [ofBytes, List.mem_map] at he
        obtain ⟨_, _, rfl⟩ := he; rfl
      · obtain ⟨n, _, rfl⟩ := List.mem_map.1 he; rfl
theorem inK_reads (x : (Ty.sl (.int .i64)).den) : Reads1 1 ((Ty.sl (.int .i64)).pv x) ((inK x).map (.int .i64)) := by
  cases x with
  | none => exact reads_nils 1
  | some q =>
    obtain ⟨es, sp⟩ := q
    exact reads_sl (es := es.map (.int .i64)) (fun e he => by obtain ⟨_, _, rfl⟩ := List.mem_map.1 he; rfl)

theorem actOf_wf {x : tyAct.den} (h : tyAct.wf x) : (actOf x).Wf := by
  obtain ⟨k, n, t, b, i, kp, u⟩ := x
  obtain ⟨h1, h2, h3, h4, h5, h6, _⟩ := h
  have hb := inB_isl h4
  have hi : (Lit.int .i64 i).wf = true := h5
  simp only [Lit.wf, Bool.and_eq_true, decide_eq_true_eq] at hi
  have hi2 := hi.2
  simp [IntKind.max, IntKind.signed, IntKind.bits] at hi2
  exact {
    name := h2
    to := h3
    len := by have := hb.len; rw [ofBytes_len] at this; exact this
    app := hb.appd
    kept := inK_reads kp
    n := hi2
    bone := (sl_one b).1
    kone := (sl_one kp).1
    bcells := (sl_one b).2
    kcells := (sl_one kp).2 }

theorem actV_of (x : tyAct.den) : tyAct.pv x = actV (actOf x) := by
  obtain ⟨k, n, t, b, i, kp, u⟩ := x
  cases b <;> cases kp <;> rfl

theorem inA_reads {x : (Ty.sl tyAct).den} : Reads1 6 ((Ty.sl tyAct).pv x) ((inA x).map actV) := by
  cases x with
  | none => exact reads_nils 6
  | some q =>
    obtain ⟨es, sp⟩ := q
    have he : (Ty.sl tyAct).pv (some (es, sp)) = .sl none ((es.map actOf).map actV) (sp.map fun x => tyAct.pv x) := by
      show PV.sl none (es.map fun x => tyAct.pv x) (sp.map fun x => tyAct.pv x) = _
      rw [List.map_map]
      congr 1
      exact List.map_congr_left (fun x _ => actV_of x)
    rw [he]
    refine reads_sl (fun e he => ?_)
    obtain ⟨x, _, rfl⟩ := List.mem_map.1 he
    rfl
theorem inA_wf {x : (Ty.sl tyAct).den} (h : (Ty.sl tyAct).wf x) : (inA x).length ≤ maxLen ∧ ∀ a ∈ inA x, a.Wf := by
  cases x with
  | none => exact ⟨Nat.zero_le _, fun y hy => by simp [inA] at hy⟩
  | some q =>
    obtain ⟨es, sp⟩ := q
    refine ⟨by simp only [inA, List.length_map]; exact Nat.le_trans (Nat.le_add_right _ _) h.1, fun y hy => ?_⟩
    obtain ⟨x, hx, rfl⟩ := List.mem_map.1 hy
    exact actOf_wf (h.2.1 x hx)

theorem part6 {a : ActD} : partOf true 6 (actV a).cells = some (actV a) := rfl

/-! ### begun -/

theorem sol_at {S : St} {o K n : Nat} {D : Dk} (h : At S o K D) (hn : n ≤ o) (k : Nat) : sol S.objs n (k + 2) (.ptr o 0) = none := by
  have ho := h.obj
  rw [sol]
  simp only [PV.free, Bool.false_eq_true, if_false, hn, if_true, ho]
  have b1 : sol S.objs n (k + 1) (.map D.bi) = none := rfl
  have b0 : sol S.objs n (k + 1) (.int .i64 D.room) = some (.int .i64 D.room) := rfl
  simp [dcells, mapO, b0, b1]

theorem fin_at {S S' : St} {o K : Nat} {D : Dk} (h : At S' o K D) (hn : S.objs.length ≤ o) : finish false S S' (.ptr o 0) = (.ptr o 0, S') := by
  unfold finish
  simp only [Bool.false_eq_true, if_false, solFuel, sol_at h hn 38]

theorem begun_loop {al : List ActD} {v : PV} (hv : Reads1 6 v (al.map actV)) (hl : al.length ≤ maxLen) (hw : ∀ a ∈ al, a.Wf) {o : Nat} {K : List Kt} {Q : Fr → St → Prop} :
    ∀ (rest pre : List ActD), al = pre ++ rest → pre.length ≤ 40 → ∀ (fr : Fr) (S : St) (D : Dk), At S o (2 * pre.length) D → fr 5 = .ptr o 0 → fr 1 = v → fr 7 = .int .i64 pre.length →
    (∀ fr' S' D', At S' o 80 D' → fr' 5 = .ptr o 0 → Ok (gval T K fr' S') Q) →
    Ok (gval T (.lp law04_begun_l0 :: .blk 0 :: K) fr S) Q := by
  intro rest
  induction rest with
  | nil =>
    intro pre hp h40 fr S D h h5 h1 h7 k
    rw [List.append_nil] at hp; subst hp
    have hlen := hv.len
    rw [List.length_map] at hlen
    rw [gval_lp]
    simp -implicitDefEqProofs [h5, h1, h7, hlen]
    exact k _ S D (h.mono (by omega)) (by simp [h5])
  | cons a rest ih =>
    intro pre hp h40 fr S D h h5 h1 h7 k
    have hi : pre.length < al.length := by rw [hp]; simp
    have hlen := hv.len
    rw [List.length_map] at hlen
    have hg := hv.get pre.length (by simpa using hi) .i64
    have hgx : (al.map actV)[pre.length]'(by simpa using hi) = actV a := by simp [hp]
    rw [hgx] at hg
    unfold maxLen at hl
    have hwr := wrap_len (a := pre.length) (by omega)
    by_cases hlt : pre.length < 40
    · obtain ⟨r, bv, D', S', hc, hA, hR, hd⟩ := act_val h (by omega) (hw a (by rw [hp]; simp))
      have hL : ∀ fr', fr' 5 = .ptr o 0 → fr' 1 = v → fr' 7 = .int .i64 ((pre.length + 1 : Nat) : Int) → Ok (gval T (.lp law04_begun_l0 :: .blk 0 :: K) fr' S') Q := by
        intro fr' g5 g1 g7
        exact ih (pre ++ [a]) (by simp [hp]) (by simp; omega) fr' S' D' (by simp only [List.length_append, List.length_cons, List.length_nil]; exact hA.mono (by omega)) g5 g1 (by simpa using g7) k
      clear k ih
      have hlt' : (pre.length : Int) < 40 := by omega
      rw [gval_lp]
      simp -implicitDefEqProofs [h5, h1, h7, hlen, hi, hlt, hlt', hg, part6, hc]
      exact hL _ (by simp [h5]) (by simp [h1]) (by simp [hwr])
    · have hlt' : ¬ (pre.length : Int) < 40 := by omega
      rw [gval_lp]
      simp -implicitDefEqProofs [h5, h1, h7, hlen, hi, hlt, hlt']
      exact k _ S D (h.mono (by omega)) (by simp [h5])

theorem begun_val {S : St} {room : Int} {al : List ActD} {v : PV} (hv : Reads1 6 v (al.map actV)) (hl : al.length ≤ maxLen) (hw : ∀ a ∈ al, a.Wf) :
    cval T 466 [.int .i64 room, v] S = some (.nilp, S) ∨ ∃ o S' D, cval T 466 [.int .i64 room, v] S = some (.ptr o 0, S') ∧ At S' o 80 D ∧ S.objs.length ≤ o := by
  by_cases hr : room < 1 ∨ 4194304 < room
  · left
    have hn := new_bad (S := S) hr
    have hlen := hv.len
    rw [List.length_map] at hlen
    refine cval_ok' fn_466 rfl ?_
    have fin1 : finish false S S .nilp = (.nilp, S) := by rw [fin_same]; rfl
    by_cases h0 : 0 < al.length
    · have h0' : (0 : Int) < al.length := by omega
      simp -implicitDefEqProofs [law04_begun, hn, gval_lp, hlen, h0, h0']
      exact fin1
    · have h0' : al.length = 0 := by omega
      simp -implicitDefEqProofs [law04_begun, hn, gval_lp, hlen, h0']
      exact fin1
  · right
    have hn := new_ok (S := S) (r := room) (by omega) (by omega)
    have hA := new_at (S := S) (r := room) (by omega) (by omega)
    obtain ⟨S1, hS1⟩ : ∃ S1 : St, S1 = ⟨S.objs ++ [[], [], dcells (newD room S.objs.length)], S.tips⟩ := ⟨_, rfl⟩
    rw [← hS1] at hn hA
    obtain ⟨r, S2, hc, D2, hA2, hr2⟩ : ∃ r S2, cval T 466 [.int .i64 room, v] S = some (r, S2) ∧ ∃ D, At S2 (S.objs.length + 2) 80 D ∧ r = .ptr (S.objs.length + 2) 0 := by
      refine cval_ex fn_466 rfl ?_
      simp -implicitDefEqProofs [law04_begun, hn]
      refine begun_loop hv hl hw al [] rfl (by simp) _ S1 _ hA (by simp) (by simp) (by simp) ?_
      intro fr' S' D' hA' h5
      simp -implicitDefEqProofs [h5]
      rw [fin_at hA' (by omega)]
      exact ⟨⟨D', hA'⟩, rfl⟩
    exact ⟨_, S2, D2, by rw [hc, hr2], hA2, by omega⟩
end Ps
