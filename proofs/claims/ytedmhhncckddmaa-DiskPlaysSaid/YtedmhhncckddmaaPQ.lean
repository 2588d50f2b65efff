/- The calls that come in; lives. -/
import Derived.Test.YtedmhhncckddmaaPO
namespace Ps
set_option linter.unusedSimpArgs false
set_option linter.unusedVariables false
open Go

theorem fn_21 : T.fn 21 = some (.code law04_whole) := rfl
theorem fn_93 : T.fn 93 = some (.code disk_Disk_Done) := rfl
theorem fn_91 : T.fn 91 = some (.code law04_same) := rfl


theorem same_loop {A B : List Nm} {av bv : PV} (ha : Reads1 1 av (A.map .str)) (hb : Reads1 1 bv (B.map .str)) (hA : A.length ≤ maxLen) {K : List Kt} {Q : Fr → St → Prop} {S : St} :
    ∀ (ra rb pa pb : List Nm), A = pa ++ ra → B = pb ++ rb → pa.length = pb.length → ra.length = rb.length → ∀ (fr : Fr), fr 0 = av → fr 1 = bv → fr 5 = .int .i64 pa.length →
    (ra = rb → ∀ fr', Ok (gval T K fr' S) Q) → (ra ≠ rb → ∀ fr', fr' 4 = .bool false → Q fr' S) →
    Ok (gval T (.lp law04_same_l0 :: .blk 0 :: K) fr S) Q := by
  intro ra
  induction ra with
  | nil =>
    intro rb pa pb hp1 hp2 hl hr fr h0 h1 h5 k1 k2
    have hrb : rb = [] := by simpa using hr.symm
    subst hrb
    rw [List.append_nil] at hp1 hp2; subst hp1; subst hp2
    have hlen := ha.len
    rw [List.length_map] at hlen
    rw [gval_lp]
    simp -implicitDefEqProofs [h0, h1, h5, hlen]
    exact k1 rfl _
  | cons x ra ih =>
    intro rb pa pb hp1 hp2 hl hr fr h0 h1 h5 k1 k2
    cases rb with
    | nil => simp at hr
    | cons y rb =>
      have hi : pa.length < A.length := by rw [hp1]; simp
      have hi2 : pa.length < B.length := by rw [hp2, hl]; simp
      have hlen := ha.len
      rw [List.length_map] at hlen
      have hga := ha.get pa.length (by simpa using hi) .i64
      have hgb := hb.get pa.length (by simpa using hi2) .i64
      have hgx : (A.map PV.str)[pa.length]'(by simpa using hi) = .str x := by simp [hp1]
      have hgy : (B.map PV.str)[pa.length]'(by simpa using hi2) = .str y := by simp [hp2, hl]
      rw [hgx, cells_str] at hga
      rw [hgy, cells_str] at hgb
      unfold maxLen at hA
      have hw := wrap_len (a := pa.length) (by omega)
      have hL : ∀ fr', fr' 0 = av → fr' 1 = bv → fr' 5 = .int .i64 ((pa.length + 1 : Nat) : Int) → x = y → Ok (gval T (.lp law04_same_l0 :: .blk 0 :: K) fr' S) Q := by
        intro fr' g0 g1 g5 e
        subst e
        refine ih rb (pa ++ [x]) (pb ++ [x]) (by simp [hp1]) (by simp [hp2]) (by simp [hl]) (by simpa using hr) fr' g0 g1 (by simpa using g5) (fun e => k1 (by rw [e])) (fun e => k2 (fun e' => e (by simpa using e')))
      have hR : ∀ fr', fr' 4 = .bool false → x ≠ y → Q fr' S := fun fr' g4 e => k2 (fun e' => e (by simp at e'; exact e'.1)) fr' g4
      clear k1 k2 ih
      by_cases e : x = y
      · rw [gval_lp]
        simp -implicitDefEqProofs [h0, h1, h5, hlen, hi, hga, hgb, part1, e]
        exact hL _ (by simp [h0]) (by simp [h1]) (by simp [hw]) e
      · have e' : (x == y) = false := by simpa using e
        rw [gval_lp]
        simp -implicitDefEqProofs [h0, h1, h5, hlen, hi, hga, hgb, part1, e']
        exact hR _ (by simp) e

theorem same_val {A B : List Nm} {av bv : PV} (ha : Reads1 1 av (A.map .str)) (hb : Reads1 1 bv (B.map .str)) (hA : A.length ≤ maxLen) {S : St} :
    cval T 91 [av, bv] S = some (.bool (decide (A = B)), S) := by
  have hlen := ha.len
  have hlen2 := hb.len
  rw [List.length_map] at hlen hlen2
  have fb : ∀ b, finish false S S (.bool b) = (.bool b, S) := fun b => fin_gb (Grows.refl S)
  refine cval_ok' fn_91 rfl ?_
  by_cases hl : A.length = B.length
  · have hl' : ((A.length : Int) != B.length) = false := by simp; omega
    simp -implicitDefEqProofs [law04_same, hlen, hlen2, hl']
    refine same_loop ha hb hA A B [] [] rfl rfl rfl hl _ (by simp) (by simp) (by simp) (fun e fr' => ?_) (fun e fr' h4 => ?_)
    · simp [e, fb]
    · simp [h4, e, fb]
  · have hl' : ((A.length : Int) != B.length) = true := by simp; omega
    have hne : A ≠ B := fun e => hl (by rw [e])
    simp -implicitDefEqProofs [law04_same, hlen, hlen2, hl', hne, fb]


def strO (S : St) : PV → Option PV
  | .osl id off len sz => (match S.objs[id]? with
      | some cs => if sz = 1 ∧ off + len ≤ cs.length then (match bytesOf ((cs.drop off).take len) with | some s => some (.str s) | none => none) else none
      | none => none)
  | .nils => some (.str [])
  | .emp => some (.str [])
  | .sl _ es _ => (match bytesOf es with | some s => some (.str s) | none => none)
  | _ => none
theorem ps_toStrO {fr : Fr} {S : St} {x : Opd} : pstep T (cval T) fr S (.toStrO x) = ob (strO S (ev fr x)) fun v => some (v, S) := by
  simp only [pstep]
  cases hv : ev fr x with
  | osl id off len sz =>
    simp only [strO]
    cases S.objs[id]? with
    | none => rfl
    | some cs =>
      simp only
      split
      · cases bytesOf ((cs.drop off).take len) <;> rfl
      · rfl
  | nils => rfl
  | emp => rfl
  | sl t es sp =>
    simp only [strO]
    cases bytesOf es <;> rfl
  | _ => rfl

theorem strO_own {o : Nat} {S S' : St} {D : Dk} {v : PV} {b : List UInt8} (h : OwnB o S S' D v b) : strO S' v = some (.str b) := by
  rcases h with ⟨rfl | rfl, rfl⟩ | ⟨id, rfl, _, h2, _, _, _⟩
  · rfl
  · rfl
  · have hl : (ofBytes b).length = b.length := by simp [ofBytes]
    simp only [strO, h2, List.drop_zero, Nat.zero_add]
    rw [if_pos ⟨trivial, by rw [hl]; exact Nat.le_refl _⟩, ← hl, List.take_length, bytesOf_oB]
theorem strO_sl0 {S' : St} {v : PV} {b : List UInt8} (h : Sl0 1 v (ofBytes b)) : strO S' v = some (.str b) := by
  rcases h.val with ⟨rfl, hn⟩ | ⟨sp, rfl, _⟩
  · have : b = [] := by simpa [ofBytes] using hn
    subst this; rfl
  · simp only [strO, bytesOf_oB]

theorem At.grows {S S' : St} {o K : Nat} {D : Dk} (h : At S o K D) (hg : Grows S S') : At S' o K D := by
  obtain ⟨x, t, rfl⟩ := hg
  exact h.grow (fun i c hc => by rw [List.getElem?_append_left (List.getElem?_eq_some_iff.1 hc).1]; exact hc) (fun i c hc => by rw [List.getElem?_append_left (List.getElem?_eq_some_iff.1 hc).1]; exact hc)
theorem read_grows {S : St} {o K : Nat} {D : Dk} (h : At S o K D) (n : Nm) : Grows S (readS D n S) := by
  rcases read_own h n with ⟨_, _, e⟩ | ⟨_, e, _⟩ <;> rw [e]
  · exact Grows.refl S
  · exact (Grows.refl S).objs _

theorem done_val {S : St} {o K : Nat} {D : Dk} (h : At S o K D) : cval T 93 [.ptr o 0] S = some (.int .i64 D.done, S) := by
  have hob := h.obj
  simp only [dcells] at hob
  refine cval_ok' fn_93 rfl ?_
  simp -implicitDefEqProofs [disk_Disk_Done, loadP_ptr hob, pstep, part1]

theorem whole_val {S : St} {o K : Nat} {D : Dk} {R : RD} (h : At S o K D) (hK : K ≤ 1048570) (hr : RelD D R) {K2 : Nat} (hR : R.Wf K2) (hK2 : K2 ≤ 1048570) : cval T 21 [.ptr o 0, R.v] S = some (.bool true, S) := by
  have o1 := hR.fs.one.1
  have o2 := hR.bs.one.1
  have o3 := hR.ws.one.1
  have hl := list_val h hK
  obtain ⟨v, w1, w2⟩ := rlist_val hR hK2 (S := S)
  have hrd := listV_reads D
  have hnm : namesR R = namesL D := rel_names h hr
  rw [hnm] at w2
  have hnl := h.namesLen
  have hmax : (namesL D).length ≤ maxLen := by unfold maxLen; omega
  have hs := same_val hrd w2.reads hmax (S := S)
  simp only [decide_true] at hs
  have hd := done_val h
  have hct := hr.count
  have hlen := hrd.len
  rw [List.length_map] at hlen
  simp only [RD.v, RD.c] at w1 ⊢
  rw [hct] at w1 ⊢
  refine cval_ok' fn_21 rfl ?_
  simp -implicitDefEqProofs [law04_whole, pstep, o1, o2, o3, part7, part1, hl, w1, hs, hd]
  refine lp_up (namesL D).length (fun i fr S' => fr 0 = .ptr o 0 ∧ fr 3 = .ref [.int .i64 R.room, R.fv, R.bv, R.wv, .int .i64 R.left, .bool R.dark, .int .i64 D.done] ∧ fr 5 = listV D ∧ fr 6 = .int .i64 (i : Int) ∧ Grows S S') ?_ ?_ 0 (Nat.zero_le _) _ _ ⟨by simp, by simp, by simp, by simp, Grows.refl S⟩
  · rintro i fr S' hi ⟨f0, f3, f5, f6, hg⟩ k
    have hw := wrap_up hi hmax
    have hx := hrd.get i (by simpa using hi) .i64
    have hgx : ((namesL D).map PV.str)[i]'(by simpa using hi) = .str (namesL D)[i] := by simp
    rw [hgx, cells_str] at hx
    have hn := h.namesMax _ (List.getElem_mem hi)
    obtain ⟨n, hn0⟩ : ∃ n, n = (namesL D)[i] := ⟨_, rfl⟩
    rw [← hn0] at hx hn
    have hA := h.grows hg
    have r1 := dread_val hA hn
    obtain ⟨hA2, hF, hO⟩ := read_fra hA n
    have r2 := rread_val hR hK2 hn (fun e he => (rel_bd h hr e he).2) (S := readS D n S')
    obtain ⟨q1, q2⟩ := rel_read h hr n
    have e1 : readRE R n = readE D n := q1
    have e2 : readRB R n = readB D n := by rw [q2, e1]; rfl
    have s1 := strO_own hO
    have s2 := strO_sl0 (S' := readS D n S') (readR_sl hR n)
    rw [e2] at s2
    rw [e1] at r2
    have hg2 := hg.trans (read_grows hA n)
    have hL : ∀ (fr' : Fr), fr' 0 = .ptr o 0 → fr' 3 = .ref [.int .i64 R.room, R.fv, R.bv, R.wv, .int .i64 R.left, .bool R.dark, .int .i64 D.done] → fr' 5 = listV D → fr' 6 = .int .i64 ((i : Int) + 1) → Ok (gval T (.lp law04_whole_l0 :: .blk 0 :: [.code (.seq (.region law04_whole_r11) .ret)]) fr' (readS D n S')) _ := fun fr' g0 g3 g5 g6 =>
      k fr' _ ⟨g0, g3, g5, by simpa using g6, hg2⟩
    clear k
    simp only [RD.v, RD.c] at r2
    rw [hct] at r2
    generalize readRV R n = rv at r2 s2
    generalize readW D n S' = rw' at r1 s1
    generalize readS D n S' = S2 at r1 r2 s1 s2 hL
    generalize readB D n = bb at s1 s2
    rw [gval_lp]
    simp -implicitDefEqProofs [f0, f3, f5, f6, hlen, hi, hx, part1, part7, r1, r2, ps_toStrO, s1, s2]
    exact hL _ (by simp [f0]) (by simp [f3]) (by simp [f5]) (by simp [hw])
  · rintro fr S' ⟨f0, f3, f5, f6, hg⟩
    rw [gval_lp]
    simp -implicitDefEqProofs [f0, f3, f5, f6, hlen]
    exact fin_gb hg

end Ps
namespace Ps
set_option linter.unusedSimpArgs false
set_option linter.unusedVariables false
open Go

theorem lives_run : pcall T 3000 18 [] St0 = some (.bool true, St0) := by kernel_rfl

theorem fn_18 : T.fn 18 = some (.code law04_lives) := rfl
theorem lives_pval : pval T 18 [] = some (.bool true) := pval_st (cval_of 3000 lives_run) rfl rfl

abbrev tyAct : Ty := .st (.pair (.int .i64) (.pair .str (.pair .str (.pair (.sl (.int .u8)) (.pair (.int .i64) (.pair (.sl (.int .i64)) .unit))))))
def inB (x : (Ty.sl (.int .u8)).den) : List UInt8 := match x with | none => [] | some q => q.1.map fun n => UInt8.ofNat (Int.toNat n)
def inK (x : (Ty.sl (.int .i64)).den) : List Int := match x with | none => [] | some q => q.1
def actOf (x : tyAct.den) : ActD := ⟨x.1, x.2.1, x.2.2.1, inB x.2.2.2.1, (Ty.sl (.int .u8)).pv x.2.2.2.1, x.2.2.2.2.1, inK x.2.2.2.2.2.1, (Ty.sl (.int .i64)).pv x.2.2.2.2.2.1⟩
def inA (x : (Ty.sl tyAct).den) : List ActD := match x with | none => [] | some q => q.1.map actOf

theorem sl_one {e : Ty} (x : (Ty.sl e).den) : ((Ty.sl e).pv x).one = true ∧ ((Ty.sl e).pv x).cells = [(Ty.sl e).pv x] := by
  cases x with
  | none => exact ⟨rfl, rfl⟩
  | some q => exact ⟨rfl, rfl⟩
theorem inB_isl {x : (Ty.sl (.int .u8)).den} (h : (Ty.sl (.int .u8)).wf x) : IsSl 1 ((Ty.sl (.int .u8)).pv x) (ofBytes (inB x)) := by
  cases x with
  | none => exact .inl ⟨rfl, rfl⟩
  | some q =>
    obtain ⟨es, sp⟩ := q
    have key : ∀ l : List Int, (∀ n ∈ l, (Lit.int .u8 n).wf = true) → ofBytes (l.map fun n => UInt8.ofNat n.toNat) = l.map fun n => PV.int .u8 n := by
      intro l hl
      induction l with
      | nil => rfl
      | cons n l ih =>
        have hn := hl n (by simp)
        simp only [Lit.wf, Bool.and_eq_true, decide_eq_true_eq] at hn
        have h1 : 0 ≤ n ∧ n ≤ 255 := by simpa [IntKind.min, IntKind.max, IntKind.signed, IntKind.bits] using hn
        have h2 : ((UInt8.ofNat n.toNat).toNat : Int) = n := by
          have : n.toNat < 256 := by omega
          simp [Nat.mod_eq_of_lt this]; omega
        simp only [ofBytes, List.map_cons, h2] at ih ⊢
        rw [ih (fun m hm => hl m (by simp [hm]))]
    refine .inr ⟨none, sp.map fun n => PV.int .u8 n, ?_, ?_⟩
    · show PV.sl none (es.map fun n => PV.int .u8 n) (sp.map fun n => PV.int .u8 n) = _
      rw [← key es h.2.1]; rfl
    · intro e he
      rcases List.mem_append.1 he with he | he
      · simp only [ofBytes, List.mem_map] at he
        obtain ⟨_, _, rfl⟩ := he; rfl
      · obtain ⟨n, _, rfl⟩ := List.mem_map.1 he; rfl
theorem inK_reads (x : (Ty.sl (.int .i64)).den) : Reads1 1 ((Ty.sl (.int .i64)).pv x) ((inK x).map (.int .i64)) := by
  cases x with
  | none => exact reads_nils 1
  | some q =>
    obtain ⟨es, sp⟩ := q
    exact reads_sl (es := es.map (.int .i64)) (fun e he => by obtain ⟨_, _, rfl⟩ := List.mem_map.1 he; rfl)

theorem actOf_wf {x : tyAct.den} (h : tyAct.wf x) : (actOf x).Wf := by
  obtain ⟨k, n, t, b, i, kp, u⟩ := x
  obtain ⟨h1, h2, h3, h4, h5, h6, _⟩ := h
  have hb := inB_isl h4
  have hi : (Lit.int .i64 i).wf = true := h5
  simp only [Lit.wf, Bool.and_eq_true, decide_eq_true_eq] at hi
  have hi2 := hi.2
  simp [IntKind.max, IntKind.signed, IntKind.bits] at hi2
  exact {
    name := h2
    to := h3
    len := by have := hb.len; rw [show (ofBytes (inB b)).length = (inB b).length by simp [ofBytes]] at this; exact this
    app := hb.appd
    kept := inK_reads kp
    n := hi2
    bone := (sl_one b).1
    kone := (sl_one kp).1
    bcells := (sl_one b).2
    kcells := (sl_one kp).2 }

theorem actV_of (x : tyAct.den) : tyAct.pv x = actV (actOf x) := by
  obtain ⟨k, n, t, b, i, kp, u⟩ := x
  cases b <;> cases kp <;> rfl

theorem inA_reads {x : (Ty.sl tyAct).den} : Reads1 6 ((Ty.sl tyAct).pv x) ((inA x).map actV) := by
  cases x with
  | none => exact reads_nils 6
  | some q =>
    obtain ⟨es, sp⟩ := q
    have he : (Ty.sl tyAct).pv (some (es, sp)) = .sl none ((es.map actOf).map actV) (sp.map fun x => tyAct.pv x) := by
      show PV.sl none (es.map fun x => tyAct.pv x) (sp.map fun x => tyAct.pv x) = _
      rw [List.map_map]
      congr 1
      exact List.map_congr_left (fun x _ => actV_of x)
    rw [he]
    refine reads_sl (fun e he => ?_)
    obtain ⟨x, _, rfl⟩ := List.mem_map.1 he
    rfl
theorem inA_wf {x : (Ty.sl tyAct).den} (h : (Ty.sl tyAct).wf x) : (inA x).length ≤ maxLen ∧ ∀ a ∈ inA x, a.Wf := by
  cases x with
  | none => exact ⟨Nat.zero_le _, fun y hy => by simp [inA] at hy⟩
  | some q =>
    obtain ⟨es, sp⟩ := q
    refine ⟨by simp only [inA, List.length_map]; exact Nat.le_trans (Nat.le_add_right _ _) h.1, fun y hy => ?_⟩
    obtain ⟨x, hx, rfl⟩ := List.mem_map.1 hy
    exact actOf_wf (h.2.1 x hx)

theorem part6 {a : ActD} : partOf true 6 (actV a).cells = some (actV a) := rfl


theorem inA_b {x : (Ty.sl tyAct).den} (h : (Ty.sl tyAct).wf x) : ∀ a ∈ inA x, a.b.length ≤ maxLen := by
  cases x with
  | none => exact fun y hy => by simp [inA] at hy
  | some q =>
    obtain ⟨es, sp⟩ := q
    intro y hy
    obtain ⟨x, hx, rfl⟩ := List.mem_map.1 hy
    have h2 := h.2.1 x hx
    obtain ⟨k, n, t, b, i, kp, u⟩ := x
    obtain ⟨_, _, _, h4, _⟩ := h2
    cases b with
    | none => exact Nat.zero_le _
    | some q =>
      obtain ⟨bs, sp⟩ := q
      have h5 := h4.1
      refine Nat.le_trans (Nat.le_of_eq (List.length_map (fun n : (Ty.int .u8).den => UInt8.ofNat (Int.toNat n)))) (Nat.le_trans (Nat.le_add_right _ _) h5)
theorem actV_cells (a : ActD) : (actV a).cells = [.int .i64 a.kind, .str a.name, .str a.to, a.bv, .int .i64 a.n, a.kv] := rfl
theorem part6' {x1 x2 x3 x4 x5 x6 : PV} : partOf true 6 [x1, x2, x3, x4, x5, x6] = some (.agg [x1, x2, x3, x4, x5, x6]) := rfl

theorem At.other {S S3 : St} {o K : Nat} {D : Dk} (h : At S o K D) {id : Option Nat} (h1 : id ≠ some o) (h2 : ∀ i, id = some i → ¬ OwnsO D i) (ho : ∀ (i : Nat) (c : List PV), id ≠ some i → S.objs[i]? = some c → S3.objs[i]? = some c) (ht : S3.tips = S.tips) : At S3 o K D where
  obj := ho _ _ h1 h.obj
  base := ho _ _ (fun e => h2 _ e (.inl rfl)) h.base
  live := ho _ _ (fun e => h2 _ e (.inr (.inl rfl))) h.live
  wv := by rw [show S3 = ⟨S3.objs, S.tips⟩ by rw [← ht]]; exact h.wv
  file := fun f hf => by
    obtain ⟨q1, q2, q3⟩ := h.file f hf
    refine ⟨ho _ _ (fun e => h2 _ e (.inr (.inr hf))) q1, ?_, q3⟩
    rw [show S3 = ⟨S3.objs, S.tips⟩ by rw [← ht]]; exact q2
  inb := h.inb
  inw := h.inw
  nd := h.nd
  tw := h.tw
  tf := h.tf
  hist := h.hist
  nb := h.nb
  nw := h.nw
  rm := h.rm
  cnt := h.cnt
  dn := h.dn
  lf := h.lf

theorem turn_loop {bv : PV} {b : List UInt8} {o : Nat} {S0 S2 : St} {D : Dk} (hO : OwnB o S0 S2 D bv b) (hb : b.length ≤ maxLen) {K : List Kt} {Q : Fr → St → Prop} {fr : Fr} (f11 : fr 11 = bv) (f15 : fr 15 = .int .i64 0)
    (k : ∀ fr' S3, fr' 1 = fr 1 → fr' 5 = fr 5 → fr' 7 = fr 7 → fr' 9 = fr 9 → fr' 12 = fr 12 → S3.tips = S2.tips → (∀ (i : Nat) (c : List PV), gidV bv ≠ some i → S2.objs[i]? = some c → S3.objs[i]? = some c) → Ok (gval T K fr' S3) Q) :
    Ok (gval T (.lp law04_DiskPlays_l1 :: .blk 2 :: K) fr S2) Q := by
  rcases hO with ⟨e, rfl⟩ | ⟨id, rfl, _, h2, hne, _, _⟩
  · have hlen : lenP false bv = some (.int .i64 0) := by rcases e with rfl | rfl <;> rfl
    rw [gval_lp]
    simp -implicitDefEqProofs [f11, f15, hlen]
    exact k _ _ (by simp) (by simp) (by simp) (by simp) (by simp) rfl (fun i c _ h => h)
  · refine lp_up b.length (fun i fr' S' => fr' 11 = .osl id 0 b.length 1 ∧ fr' 15 = .int .i64 (i : Int) ∧ fr' 1 = fr 1 ∧ fr' 5 = fr 5 ∧ fr' 7 = fr 7 ∧ fr' 9 = fr 9 ∧ fr' 12 = fr 12 ∧ S'.tips = S2.tips ∧ (∀ (j : Nat) (c : List PV), id ≠ j → S2.objs[j]? = some c → S'.objs[j]? = some c) ∧ ∃ c, S'.objs[id]? = some c ∧ c.length = b.length ∧ ∀ e ∈ c, ∃ m, e = .int .u8 m) ?_ ?_ 0 (Nat.zero_le _) _ _ ⟨f11, by simpa using f15, rfl, rfl, rfl, rfl, rfl, rfl, fun _ _ _ h => h, _, h2, by simp [ofBytes], fun e he => ?_⟩
    · rintro i fr' S' hi ⟨g11, g15, g1, g5, g7, g9, g12, ht, hk, c, hc, hl, hm⟩ kk
      have hw := wrap_up hi hb
      have hic : i < c.length := by omega
      obtain ⟨m, hme⟩ := hm _ (List.getElem_mem hic)
      have hd : c.drop i = .int .u8 m :: c.drop (i + 1) := by rw [List.drop_eq_getElem_cons hic, hme]
      have hload : loadP S' false 1 (.ptr id i) = some (.int .u8 m) := by rw [loadP_ptr hc, hd]; simp [partOf]
      have hlt : ((i : Int) < (b.length : Int)) := by omega
      have hle : i + 1 ≤ c.length := by omega
      have hL : ∀ (fr2 : Fr) (S3 : St) (c' : List PV), fr2 11 = .osl id 0 b.length 1 → fr2 15 = .int .i64 ((i : Int) + 1) → fr2 1 = fr 1 → fr2 5 = fr 5 → fr2 7 = fr 7 → fr2 9 = fr 9 → fr2 12 = fr 12 → S3 = ⟨S'.objs.set id c', S'.tips⟩ → c'.length = b.length → (∀ e ∈ c', ∃ m, e = .int .u8 m) → Ok (gval T (.lp law04_DiskPlays_l1 :: .blk 2 :: K) fr2 S3) Q := by
        intro fr2 S3 c' q11 q15 q1 q5 q7 q9 q12 q3 q4 q6
        subst q3
        refine kk fr2 _ ⟨q11, by simpa using q15, q1, q5, q7, q9, q12, ht, fun j x hj hx => ?_, c', get_set hc, q4, q6⟩
        simp only
        rw [List.getElem?_set_ne hj]; exact hk j x hj hx
      clear kk
      rw [gval_lp]
      simp -implicitDefEqProofs [g11, g15, hlt, hi, hload, pstep, putCells, hc, hle]
      refine hL _ _ (c.take i ++ .int .u8 (IntKind.u8.wrap (m + 1)) :: c.drop (i + 1)) (by simp [g11]) (by simp [hw]) (by simp [g1]) (by simp [g5]) (by simp [g7]) (by simp [g9]) (by simp [g12]) ?_ (by simp; omega) ?_
      · first | rfl | simp
      · intro e he
        rcases List.mem_append.1 he with he | he
        · exact hm e (List.mem_of_mem_take he)
        · rcases List.mem_cons.1 he with he | he
          · exact ⟨_, he⟩
          · exact hm e (List.mem_of_mem_drop he)
    · rintro fr' S' ⟨g11, g15, g1, g5, g7, g9, g12, ht, hk, c, hc, hl, hm⟩
      rw [gval_lp]
      simp -implicitDefEqProofs [g11, g15]
      exact k _ _ (by simp [g1]) (by simp [g5]) (by simp [g7]) (by simp [g9]) (by simp [g12]) ht (fun j x hj => hk j x (fun e => hj (by rw [e]; rfl)))
    · simp only [ofBytes, List.mem_map] at he
      obtain ⟨x, _, rfl⟩ := he
      exact ⟨_, rfl⟩

end Ps
