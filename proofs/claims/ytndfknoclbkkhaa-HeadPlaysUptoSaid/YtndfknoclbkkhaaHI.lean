/- The head: what stands in the memory, whole; what keeps it. -/
import Derived.Test.YtndfknoclbkkhaaLB
import Derived.Test.YtndfknoclbkkhaaWA
import Derived.Test.YtndfknoclbkkhaaWB
namespace Ps
set_option linter.unusedSimpArgs false
set_option linter.unusedVariables false
open Go
def andI (k : IntKind) (a b : Int) : Int := k.wrap (BitVec.ofInt k.bits a &&& BitVec.ofInt k.bits b).toNat
@[simp] theorem ar_and {k : IntKind} {a b : Int} : arith .and (.int k a) (.int k b) = some (.int k (andI k a b)) := by simp [arith, isShift, intOp, andI]
theorem ofBytes_app (a b : List UInt8) : ofBytes (a ++ b) = ofBytes a ++ ofBytes b := by simp [ofBytes]
theorem ofBytes_len (a : List UInt8) : (ofBytes a).length = a.length := by simp [ofBytes]
theorem ofBytes_cells (a : List UInt8) : ∀ e ∈ ofBytes a, e.cells.length = 1 := by
 intro e he
 obtain ⟨x, _, rfl⟩ := List.mem_map.1 he
 rfl
theorem bytesOf_of (s : List UInt8) : bytesOf (ofBytes s) = some s := by
 induction s with
 | nil => rfl
 | cons b s ih =>
  simp only [ofBytes, List.map_cons, bytesOf] at ih ⊢
  rw [ih]
  simp
theorem toStr_of {v : PV} {s : List UInt8} (h : IsSl 1 v (ofBytes s)) : toStrP v = some (.str s) := by
 rcases h with ⟨rfl, h⟩ | ⟨tip, sp, rfl, _⟩
 ·cases s with
  | nil => rfl
  | cons b s => simp [ofBytes] at h
 ·simp only [toStrP, bytesOf_of]

def strsV (l : List (List UInt8)) : List PV := l.map .str

theorem fn_99 : T.fn 99 = some (.code z60) := rfl

def hexD : List UInt8 := [48, 49, 50, 51, 52, 53, 54, 55, 56, 57, 97, 98, 99, 100, 101, 102]
def hexB (n : Nat) : UInt8 := hexD.getD n 0
def escB (c : UInt8) : List UInt8 :=
 if c.toNat = 34 ∨ c.toNat = 92 then [92, c] else if c.toNat < 32 ∨ 126 < c.toNat then [92, 120, hexB (c.toNat / 16), hexB (c.toNat % 16)] else [c]
def quotT (s : List UInt8) : List UInt8 := 34 :: s.flatMap escB ++ [34]

theorem escB_len (c : UInt8) : (escB c).length ≤ 4 := by
 unfold escB; split
 ·simp
 ·split <;> simp
theorem escs_len : ∀ s : List UInt8, (s.flatMap escB).length ≤ 4 * s.length
 | [] => by simp
 | c :: s => by have := escB_len c; have := escs_len s; rw [List.flatMap_cons, List.length_append, List.length_cons]; omega
theorem quotT_len (s : List UInt8) : (quotT s).length ≤ 4 * s.length + 2 := by
 have := escs_len s; rw [quotT, List.length_append, List.length_cons, List.length_singleton]; omega

theorem hex_hi : ∀ m : Fin 256, hexD[m.val / 16]? = some (hexB (m.val / 16)) := by decide +kernel
theorem hex_lo : ∀ m : Fin 256, hexD[m.val % 16]? = some (hexB (m.val % 16)) := by decide +kernel
theorem and15_fin : ∀ m : Fin 256, andI .u8 ((m.val : Nat) : Int) 15 = ((m.val % 16 : Nat) : Int) := by decide +kernel
theorem and15 (c : UInt8) : andI .u8 (c.toNat : Int) 15 = ((c.toNat % 16 : Nat) : Int) := and15_fin ⟨c.toNat, c.toNat_lt⟩
theorem ar_shr4 {a : Int} : arith .shr (.int .u8 a) (.int .u64 4) = some (.int .u8 (a.fdiv 16)) := rfl
theorem fdiv16 (n : Nat) : (n : Int).fdiv 16 = ((n / 16 : Nat) : Int) := by
 rw [Int.fdiv_eq_ediv_of_nonneg _ (by decide)]; omega
theorem hexD_eq : ([48, 49, 50, 51, 52, 53, 54, 55, 56, 57, 97, 98, 99, 100, 101, 102] : List UInt8) = hexD := rfl
theorem escB_cases (c : UInt8) : (c.toNat = 34 ∧ ofBytes (escB c) = [.int .u8 92, .int .u8 (c.toNat : Int)]) ∨ (c.toNat = 92 ∧ ofBytes (escB c) = [.int .u8 92, .int .u8 (c.toNat : Int)]) ∨
  ((c.toNat < 32) ∧ ofBytes (escB c) = [.int .u8 92, .int .u8 120, .int .u8 ((hexB (c.toNat / 16)).toNat : Int), .int .u8 ((hexB (c.toNat % 16)).toNat : Int)]) ∨
  ((126 < c.toNat) ∧ ofBytes (escB c) = [.int .u8 92, .int .u8 120, .int .u8 ((hexB (c.toNat / 16)).toNat : Int), .int .u8 ((hexB (c.toNat % 16)).toNat : Int)]) ∨
  ((c.toNat ≠ 34 ∧ c.toNat ≠ 92 ∧ ¬ c.toNat < 32 ∧ ¬ 126 < c.toNat) ∧ ofBytes (escB c) = [.int .u8 (c.toNat : Int)]) := by
 by_cases h1 : c.toNat = 34
 ·exact .inl ⟨h1, by rw [escB, if_pos (.inl h1)]; rfl⟩
 by_cases h2 : c.toNat = 92
 ·exact .inr (.inl ⟨h2, by rw [escB, if_pos (.inr h2)]; rfl⟩)
 have h3 : ¬ (c.toNat = 34 ∨ c.toNat = 92) := by omega
 by_cases h4 : c.toNat < 32
 ·exact .inr (.inr (.inl ⟨h4, by rw [escB, if_neg h3, if_pos (.inl h4)]; rfl⟩))
 by_cases h5 : 126 < c.toNat
 ·exact .inr (.inr (.inr (.inl ⟨h5, by rw [escB, if_neg h3, if_pos (.inr h5)]; rfl⟩)))
 ·exact .inr (.inr (.inr (.inr ⟨⟨h1, h2, h4, h5⟩, by rw [escB, if_neg h3, if_neg (by omega)]; rfl⟩)))

theorem q_loop {s : List UInt8} (hs : s.length ≤ maxLen) {S0 : St} {K : List Kt} {Q : Fr → St → Prop} : ∀ (t pre p : List UInt8), s = pre ++ t → p.length + 4 * t.length ≤ 1000000000 → ∀ (fr : Fr) (S : St),
  fr 0 = .str s → fr 8 = .int .i64 s.length → fr 9 = .int .i64 pre.length → AccG S0 1 S (fr 3) (ofBytes p) →
  (∀ fr' S', AccG S0 1 S' (fr' 3) (ofBytes (p ++ t.flatMap escB)) → S'.objs = S.objs → Ok (gval T K fr' S') Q) →
  Ok (gval T (.lp z60_l0 :: .blk 0 :: K) fr S) Q := by
 intro t
 induction t with
 | nil =>
  intro pre p hp hl fr S h0 h8 h9 ha k
  rw [List.append_nil] at hp; subst hp
  rw [gval_lp]
  simp [h8, h9]
  exact k _ _ (by simpa using ha) rfl
 | cons c t ih =>
  intro pre p hp hl fr S h0 h8 h9 ha k
  have hi : pre.length < s.length := by rw [hp]; simp
  have hc : s[pre.length] = c := by simp [hp]
  simp only [List.length_cons] at hl
  unfold maxLen at hs
  have hw := wrap_len (a := pre.length) (by omega)
  have e1 := escB_len c
  have L : ∀ fr' S', fr' 0 = .str s → fr' 8 = .int .i64 s.length → fr' 9 = .int .i64 ((pre.length + 1 : Nat) : Int) → AccG S0 1 S' (fr' 3) (ofBytes p ++ ofBytes (escB c)) → S'.objs = S.objs → Ok (gval T (.lp z60_l0 :: .blk 0 :: K) fr' S') Q := by
   intro fr' S' g0 g8 g9 ga go
   refine ih (pre ++ [c]) (p ++ escB c) (by simp [hp]) (by simp; omega) fr' S' g0 g8 (by simpa using g9) (by rw [ofBytes_app]; exact ga) (fun fr'' S'' q1 q2 => k fr'' S'' ?_ (by rw [q2, go]))
   simpa [List.flatMap_cons, List.append_assoc] using q1
  clear k ih
  have hlt := c.toNat_lt
  have hA : ∀ m, ∃ v' S', appendTo 1 1 ⟨S.objs, S.tips ++ [(m, 1)]⟩ (fr 3) (ofBytes (escB c)) = some (v', S') ∧ AccG S0 1 S' v' (ofBytes p ++ ofBytes (escB c)) ∧ S'.objs = S.objs := fun m => (ha.arrs [(m, 1)]).app (bytes := 1) (ofBytes (escB c)) (by rw [ofBytes_len, ofBytes_len]; omega)
  have x1 : (0 : Int) ≤ (c.toNat : Int) / 16 := by omega
  have x2 : (0 : Int) ≤ (c.toNat : Int) % 16 := by omega
  have x3 : ((c.toNat : Int) / 16).toNat = c.toNat / 16 := by omega
  have x4 : ((c.toNat : Int) % 16).toNat = c.toNat % 16 := by omega
  have x5 := hex_hi ⟨c.toNat, c.toNat_lt⟩
  have x6 := hex_lo ⟨c.toNat, c.toNat_lt⟩
  simp only at x5 x6
  rw [gval_lp]
  rcases escB_cases c with ⟨q, e⟩ | ⟨q, e⟩ | ⟨q, e⟩ | ⟨q, e⟩ | ⟨q, e⟩
  ·obtain ⟨v', S', b1, b2, b3⟩ := hA 2
   rw [e] at b1
   have f1 : ((c.toNat : Int) == 34) = true := by simp [q]
   simp -implicitDefEqProofs [h0, h8, h9, hi, hc, hexD_eq, ar_shr4, fdiv16, and15, x1, x2, x3, x4, x5, x6, pstep, elems, setParts, b1, f1]
   exact L _ S' (by simp [h0]) (by simp [h8]) (by simp [hw]) (by simpa using b2) b3
  ·obtain ⟨v', S', b1, b2, b3⟩ := hA 2
   rw [e] at b1
   have f1 : ((c.toNat : Int) == 34) = false := by simp [q]
   have f2 : ((c.toNat : Int) == 92) = true := by simp [q]
   simp -implicitDefEqProofs [h0, h8, h9, hi, hc, hexD_eq, ar_shr4, fdiv16, and15, x1, x2, x3, x4, x5, x6, pstep, elems, setParts, b1, f1, f2]
   exact L _ S' (by simp [h0]) (by simp [h8]) (by simp [hw]) (by simpa using b2) b3
  ·obtain ⟨v', S', b1, b2, b3⟩ := hA 4
   rw [e] at b1
   have f1 : ((c.toNat : Int) == 34) = false := by simp; omega
   have f2 : ((c.toNat : Int) == 92) = false := by simp; omega
   have f3 : (c.toNat : Int) < 32 := by omega
   simp -implicitDefEqProofs [h0, h8, h9, hi, hc, hexD_eq, ar_shr4, fdiv16, and15, x1, x2, x3, x4, x5, x6, pstep, elems, setParts, b1, f1, f2, f3]
   exact L _ S' (by simp [h0]) (by simp [h8]) (by simp [hw]) (by simpa using b2) b3
  ·obtain ⟨v', S', b1, b2, b3⟩ := hA 4
   rw [e] at b1
   have f1 : ((c.toNat : Int) == 34) = false := by simp; omega
   have f2 : ((c.toNat : Int) == 92) = false := by simp; omega
   have f3 : ¬ (c.toNat : Int) < 32 := by omega
   have f4 : (126 : Int) < (c.toNat : Int) := by omega
   simp -implicitDefEqProofs [h0, h8, h9, hi, hc, hexD_eq, ar_shr4, fdiv16, and15, x1, x2, x3, x4, x5, x6, pstep, elems, setParts, b1, f1, f2, f3, f4]
   exact L _ S' (by simp [h0]) (by simp [h8]) (by simp [hw]) (by simpa using b2) b3
  ·obtain ⟨v', S', b1, b2, b3⟩ := hA 1
   rw [e] at b1
   have f1 : ((c.toNat : Int) == 34) = false := by simp; omega
   have f2 : ((c.toNat : Int) == 92) = false := by simp; omega
   have f3 : ¬ (c.toNat : Int) < 32 := by omega
   have f4 : ¬ (126 : Int) < (c.toNat : Int) := by omega
   simp -implicitDefEqProofs [h0, h8, h9, hi, hc, hexD_eq, ar_shr4, fdiv16, and15, x1, x2, x3, x4, x5, x6, pstep, elems, setParts, b1, f1, f2, f3, f4]
   exact L _ S' (by simp [h0]) (by simp [h8]) (by simp [hw]) (by simpa using b2) b3

theorem quoted_val {s : List UInt8} (hs : s.length ≤ 200000000) {S : St} : cval T 99 [.str s] S = some (.str (quotT s), S) := by
 obtain ⟨o, t⟩ := S
 have key := cval_ok' (T := T) (f := 99) (c := z60) fn_99 (args := [.str s]) (S := ⟨o, t⟩) (S2 := ⟨o, t⟩) (r := .str (quotT s)) rfl ?_
 ·exact key
 have hg : Grows (⟨o, t⟩ : St) ⟨o, t⟩ := Grows.refl _
 simp -implicitDefEqProofs [z60, pstep, elems, setParts]
 refine q_loop (s := s) (S0 := ⟨o, t⟩) (by unfold maxLen; omega) s [] [34] (by simp) (by simp only [List.length_singleton]; omega) _ _ (by simp) (by simp) (by simp) (by simp; exact accg_new 1 (ofBytes [34]) hg) (fun fr' S' a1 a2 => ?_)
 have hq := quotT_len s
 obtain ⟨v', S2, b1, b2, b3⟩ := (a1.arrs [(1, 1)]).app (bytes := 1) (ofBytes [34]) (by rw [ofBytes_len, ofBytes_len]; simp [quotT] at hq ⊢; omega)
 have e34 : ofBytes [34] = [PV.int .u8 34] := rfl
 rw [← ofBytes_app] at b2
 rw [e34] at b1
 have ts := toStr_of (b2.isSl (ofBytes_cells _))
 have eq : [34] ++ s.flatMap escB ++ [34] = quotT s := rfl
 rw [eq] at ts b2
 simp -implicitDefEqProofs [pstep, elems, setParts, b1, ts]
 exact fin_gs b2.grows

theorem fn_24 : T.fn 24 = some (.code z67) := rfl
theorem fn_100 : T.fn 100 = some (.ext joinP) := rfl

theorem strsOf_strs : ∀ l : List (List UInt8), strsOf (strsV l) = some l
 | [] => rfl
 | x :: l => by
  have := strsOf_strs l
  simp only [strsV] at this
  simp only [strsV, List.map_cons, strsOf, this]

theorem join_val {l : List (List UInt8)} {sep : List UInt8} {v : PV} (hv : IsSl 1 v (strsV l)) (h1 : l.length ≤ 140737488355328) (h2 : (joinB sep l).length ≤ 140737488355328) (S : St) : cval T 100 [v, .str sep] S = some (.str (joinB sep l), S) := by
 refine cval_some.2 ⟨1, ?_⟩
 have e : joinP [v, .str sep] = some (.str (joinB sep l)) := by
  rcases hv with ⟨rfl, h⟩ | ⟨tip, sp, rfl, _⟩
  ·cases l with
   | nil => rfl
   | cons x l => simp [strsV] at h
  ·simp only [joinP, strsOf_strs, h1, h2, and_self, if_true]
 simp only [pcall, fn_100, e]

def partT (x : Lab) : List UInt8 := x.1 ++ [61] ++ quotT x.2.1
def printT (l : List Lab) : List UInt8 := 123 :: joinB [44, 32] (l.map partT) ++ [125]
def wid : List Lab → Nat
 | [] => 0
 | x :: l => x.1.length + 4 * x.2.1.length + 5 + wid l

theorem partT_len (x : Lab) : (partT x).length ≤ x.1.length + 4 * x.2.1.length + 3 := by
 have := quotT_len x.2.1
 simp only [partT, List.length_append, List.length_singleton]; omega
theorem wid_app : ∀ a b : List Lab, wid (a ++ b) = wid a + wid b
 | [], b => by simp [wid]
 | x :: a, b => by simp [wid, wid_app a b]; omega
theorem wid_len : ∀ l : List Lab, 5 * l.length ≤ wid l
 | [] => by simp [wid]
 | x :: l => by have := wid_len l; simp only [List.length_cons, wid]; omega
theorem join_len : ∀ l : List Lab, (joinB [44, 32] (l.map partT)).length ≤ wid l
 | [] => by simp [joinB]
 | [x] => by have := partT_len x; simp only [List.map_cons, List.map_nil, joinB, wid]; omega
 | x :: y :: l => by
  have := join_len (y :: l)
  have := partT_len x
  simp only [List.map_cons, joinB, wid, List.length_append, List.length_cons, List.length_nil] at *; omega
theorem strs_cells (l : List (List UInt8)) : ∀ e ∈ strsV l, e.cells.length = 1 := by
 intro e he
 obtain ⟨x, _, rfl⟩ := List.mem_map.1 he
 rfl

theorem quoted_pv {s : List UInt8} (hs : s.length ≤ 200000000) : pval T 99 [.str s] = some (.str (quotT s)) := pval_st (quoted_val hs) rfl rfl

theorem p_loop {l : List Lab} {v : PV} (hv : Reads1 2 v (l.map labV)) (hl : wid l ≤ 500000000) {S0 : St} {K : List Kt} {Q : Fr → St → Prop} : ∀ (r p : List Lab), l = p ++ r → ∀ (fr : Fr) (S : St),
  fr 6 = v → fr 7 = .int .i64 l.length → fr 8 = .int .i64 p.length → AccG S0 1 S (fr 3) (strsV (p.map partT)) →
  (∀ fr' S', AccG S0 1 S' (fr' 3) (strsV (l.map partT)) → Ok (gval T K fr' S') Q) →
  Ok (gval T (.lp z67_l0 :: .blk 0 :: K) fr S) Q := by
 intro r
 induction r with
 | nil =>
  intro p e fr S h6 h7 h8 ha k
  rw [List.append_nil] at e; subst e
  rw [gval_lp]
  simp -implicitDefEqProofs [h6, h7, h8]
  exact k _ _ (by simpa using ha)
 | cons x r ih =>
  intro p e fr S h6 h7 h8 ha k
  have hlt : p.length < l.length := by rw [e]; simp
  have hg := sl_get hv e
  have hwl := wid_len l
  have hwx : x.1.length + 4 * x.2.1.length + 5 ≤ wid l := by rw [e, wid_app, wid]; omega
  have hw := wrap_len (a := p.length) (by omega)
  have hq := quoted_pv (s := x.2.1) (by omega)
  have hql := quotT_len x.2.1
  have l1 : arith .add (.str x.1) (.str [61]) = some (.str (x.1 ++ [61])) := ar_sadd (by simp; omega)
  have l2 : arith .add (.str (x.1 ++ [61])) (.str (quotT x.2.1)) = some (.str (x.1 ++ [61] ++ quotT x.2.1)) := ar_sadd (by simp; omega)
  obtain ⟨v', S', e1, e2, e3⟩ := ((ha.objs [[.str x.1, .str x.2.1]]).arrs [(1, 1)]).app (bytes := 16) [.str (partT x)] (by simp [strsV]; omega)
  simp only [partT, List.append_assoc, List.singleton_append, List.cons_append, List.nil_append] at e1
  rw [gval_lp]
  simp -implicitDefEqProofs [h6, h7, h8, hlt, hg, p1, p2, pstep, putCells, elems, setParts, hq, l1, l2, e1]
  refine ih (p ++ [x]) (by simp [e]) _ S' (by simp [h6]) (by simp [h7]) (by simp [hw]) ?_ k
  simpa [strsV] using e2

theorem print_val {l : List Lab} {v : PV} (hv : Reads1 2 v (l.map labV)) (hl : wid l ≤ 500000000) (S : St) : cval T 24 [v] S = some (.str (printT l), S) := by
 refine cval_ok' fn_24 rfl ?_
 have hlen := hv.len
 rw [List.length_map] at hlen
 have hwl := wid_len l
 have hjl := join_len l
 simp -implicitDefEqProofs [z67, hlen]
 refine p_loop (l := l) (v := v) (S0 := S) hv hl l [] rfl _ _ (by simp) (by simp) (by simp) (by simpa [strsV] using accg_nil 1 (Grows.refl S)) (fun fr' S' a1 => ?_)
 have hj := join_val (a1.isSl (strs_cells _)) (sep := [44, 32]) (by rw [List.length_map]; omega) (by omega) S'
 have l1 : arith .add (.str [123]) (.str (joinB [44, 32] (l.map partT))) = some (.str ([123] ++ joinB [44, 32] (l.map partT))) := ar_sadd (by simp; omega)
 have l2 : arith .add (.str ([123] ++ joinB [44, 32] (l.map partT))) (.str [125]) = some (.str ([123] ++ joinB [44, 32] (l.map partT) ++ [125])) := ar_sadd (by simp; omega)
 generalize hJ : joinB [44, 32] (l.map partT) = J at hj l1 l2
 simp -implicitDefEqProofs only [List.cons_append, List.nil_append] at l1 l2
 simp -implicitDefEqProofs [hj, l1, l2]
 rw [fin_gs a1.grows, printT, hJ, List.cons_append]
end Ps
namespace Ps
set_option linter.unusedSimpArgs false
set_option linter.unusedVariables false
open Go
def gl (v : PV) : List Nat := (gidV v).toList
theorem mem_gl {v : PV} {i : Nat} : i ∈ gl v ↔ gidV v = some i := by simp [gl]
def gls (l : List Sr) : List Nat := l.flatMap fun r => gl r.sv
def ownH (o : Nat) (H : Hd) : List Nat := o :: H.mi :: (gl H.hv ++ gls H.ser)
def total (l : List Sr) : Nat := (l.map fun r => r.sm.length).sum
def idsL : Nat → List Sr → List PV
 | _, [] => []
 | i, r :: l => .str (printT r.lb) :: .int .i64 (i : Nat) :: idsL (i + 1) l
def serC (l : List Sr) : List PV := l.flatMap fun r => [r.lv, r.sv]

structure SrOk (S : St) (r : Sr) : Prop where
 at_ : SmAt S r.sv r.sm
 pos : ∀ id, gidV r.sv = some id → ∃ c, S.objs[id]? = some c ∧ c ≠ []
 lab : SlL r.lv r.lb ∧ Right r.lb
 rise : Rises r.sm ∧ ∀ q ∈ r.sm, 0 ≤ q.1 ∧ q.1 ≤ 1099511627776

structure HOk (S : St) (o : Nat) (H : Hd) : Prop where
 obj : S.objs[o]? = some [H.hv, .map H.mi, .int .i64 H.count]
 ids : S.objs[H.mi]? = some (idsL 0 H.ser)
 ser : (H.hv = .nils ∧ H.ser = []) ∨ ∃ si, H.hv = .osl si 0 H.ser.length 2 ∧ S.objs[si]? = some (serC H.ser) ∧ H.ser ≠ []
 all : ∀ r ∈ H.ser, SrOk S r
 dis : (ownH o H).Nodup
 idk : H.ids = idsL 0 H.ser
 cnt : H.count = (total H.ser : Nat)
 szs : H.ser.length ≤ 256
 tot : total H.ser ≤ 65536

theorem HOk.at {S : St} {o : Nat} {H : Hd} (h : HOk S o H) : HAt S o H where
 obj := h.obj
 ids := by rw [h.ids, h.idk]
 ser := by
  rcases h.ser with a | ⟨si, a, b, _⟩
  ·exact .inl a
  ·exact .inr ⟨si, a, b⟩
 sam := fun r hr => (h.all r hr).at_
 lab := fun r hr => by
  obtain ⟨a, _⟩ := (h.all r hr).lab
  exact ⟨a.free, a.frz, isl_one a.isl⟩

theorem HOk.lt {S : St} {o : Nat} {H : Hd} (h : HOk S o H) : ∀ i ∈ ownH o H, i < S.objs.length := by
 intro i hi
 simp only [ownH, List.mem_cons, List.mem_append] at hi
 rcases hi with rfl | rfl | hi | hi
 ·exact (List.getElem?_eq_some_iff.1 h.obj).1
 ·exact (List.getElem?_eq_some_iff.1 h.ids).1
 ·rcases h.ser with ⟨e, _⟩ | ⟨si, e, hs, _⟩
  ·rw [e] at hi; cases hi
  ·rw [e, mem_gl] at hi
   cases hi
   exact (List.getElem?_eq_some_iff.1 hs).1
 ·obtain ⟨r, hr, hi⟩ := List.mem_flatMap.1 hi
  obtain ⟨c, hc, _⟩ := (h.all r hr).pos i (mem_gl.1 hi)
  exact (List.getElem?_eq_some_iff.1 hc).1

theorem SrOk.mono {S S' : St} {r : Sr} (h : SrOk S r) (hk : ∀ i, gidV r.sv = some i → ∀ x, S.objs[i]? = some x → S'.objs[i]? = some x) : SrOk S' r where
 at_ := by
  rcases h.at_ with a | ⟨id, t, e, ho⟩
  ·exact .inl a
  ·exact .inr ⟨id, t, e, hk id (by rw [e]; rfl) _ ho⟩
 pos := fun id hid => by
  obtain ⟨c, hc, hn⟩ := h.pos id hid
  exact ⟨c, hk id hid _ hc, hn⟩
 lab := h.lab
 rise := h.rise

theorem HOk.frame {S S' : St} {o : Nat} {H : Hd} (h : HOk S o H) (hk : ∀ i ∈ ownH o H, ∀ x, S.objs[i]? = some x → S'.objs[i]? = some x) : HOk S' o H where
 obj := hk o (by simp [ownH]) _ h.obj
 ids := hk _ (by simp [ownH]) _ h.ids
 ser := by
  rcases h.ser with a | ⟨si, a, b, c⟩
  ·exact .inl a
  ·exact .inr ⟨si, a, hk si (by simp only [ownH, List.mem_cons, List.mem_append]; exact .inr (.inr (.inl (mem_gl.2 (by rw [a]; rfl))))) _ b, c⟩
 all := fun r hr => (h.all r hr).mono fun i hi x hx => hk i (by
  simp only [ownH, List.mem_cons, List.mem_append]
  exact .inr (.inr (.inr (List.mem_flatMap.2 ⟨r, hr, mem_gl.2 hi⟩)))) x hx
 dis := h.dis
 idk := h.idk
 cnt := h.cnt
 szs := h.szs
 tot := h.tot

structure Stp (o : Nat) (S : St) (H : Hd) (S' : St) (H' : Hd) : Prop where
 keep : ∀ i x, i ∉ ownH o H → S.objs[i]? = some x → S'.objs[i]? = some x
 own : ∀ i ∈ ownH o H', i ∈ ownH o H ∨ S.objs.length ≤ i
 len : S.objs.length ≤ S'.objs.length
theorem Stp.refl {o : Nat} {S : St} {H : Hd} : Stp o S H S H := ⟨fun _ _ _ h => h, fun _ h => .inl h, Nat.le_refl _⟩
theorem Stp.trans {o : Nat} {S S1 S2 : St} {H H1 H2 : Hd} (a : Stp o S H S1 H1) (b : Stp o S1 H1 S2 H2) : Stp o S H S2 H2 where
 keep := fun i x hi hx => b.keep i x (fun h => by
  rcases a.own i h with h | h
  ·exact hi h
  ·have := (List.getElem?_eq_some_iff.1 hx).1; omega) (a.keep i x hi hx)
 own := fun i hi => by
  rcases b.own i hi with h | h
  ·exact a.own i h
  ·have := a.len; exact .inr (by omega)
 len := Nat.le_trans a.len b.len
theorem Stp.grow {o : Nat} {S S1 : St} {H : Hd} (hg : ∀ (i : Nat) (x : List PV), S.objs[i]? = some x → S1.objs[i]? = some x) (hl : S.objs.length ≤ S1.objs.length) : Stp o S H S1 H := ⟨fun i x _ h => hg i x h, fun _ h => .inl h, hl⟩
theorem HOk.grow {S S1 : St} {o : Nat} {H : Hd} (h : HOk S o H) (hg : ∀ (i : Nat) (x : List PV), S.objs[i]? = some x → S1.objs[i]? = some x) : HOk S1 o H := h.frame fun i _ x hx => hg i x hx

theorem idsL_app : ∀ (k : Nat) (a b : List Sr), idsL k (a ++ b) = idsL k a ++ idsL (k + a.length) b
 | k, [], b => by simp [idsL]
 | k, r :: a, b => by
  have := idsL_app (k + 1) a b
  simp only [List.cons_append, idsL, this, List.length_cons]
  rw [show k + 1 + a.length = k + (a.length + 1) by omega]
theorem idsL_same {k : Nat} : ∀ {a b : List Sr}, a.map Sr.lb = b.map Sr.lb → idsL k a = idsL k b := by
 intro a
 induction a generalizing k with
 | nil => intro b h; cases b with
  | nil => rfl
  | cons => simp at h
 | cons r a ih =>
  intro b h
  cases b with
  | nil => simp at h
  | cons s b =>
   simp only [List.map_cons, List.cons.injEq] at h
   simp only [idsL, h.1, ih h.2]
theorem total_app (a b : List Sr) : total (a ++ b) = total a + total b := by simp [total]
theorem total_cons (r : Sr) (b : List Sr) : total (r :: b) = r.sm.length + total b := by simp [total]
theorem gls_app (a b : List Sr) : gls (a ++ b) = gls a ++ gls b := by simp [gls]
theorem gls_cons (r : Sr) (b : List Sr) : gls (r :: b) = gl r.sv ++ gls b := by simp [gls]
theorem gl_nodup (v : PV) : (gl v).Nodup := by unfold gl; cases gidV v <;> simp

theorem nodup_mid {α : Type} {a m n b : List α} (h : (a ++ (m ++ b)).Nodup) (hn : n.Nodup) (hx : ∀ x ∈ n, x ∈ m ∨ (x ∉ a ∧ x ∉ b)) : (a ++ (n ++ b)).Nodup := by
 rw [List.nodup_append] at h ⊢
 obtain ⟨h1, h2, h3⟩ := h
 rw [List.nodup_append] at h2
 obtain ⟨h4, h5, h6⟩ := h2
 refine ⟨h1, List.nodup_append.2 ⟨hn, h5, fun x hx1 y hy e => ?_⟩, fun x hx1 y hy e => ?_⟩
 ·subst e
  rcases hx x hx1 with q | q
  ·exact h6 x q x hy rfl
  ·exact q.2 hy
 ·subst e
  rcases List.mem_append.1 hy with hy | hy
  ·rcases hx x hy with q | q
   ·exact h3 x hx1 x (by simp [q]) rfl
   ·exact q.1 hx1
  ·exact h3 x hx1 x (by simp [hy]) rfl

theorem SrOk.lt {S : St} {r : Sr} (h : SrOk S r) {i : Nat} (hi : gidV r.sv = some i) : i < S.objs.length := by
 obtain ⟨c, hc, _⟩ := h.pos i hi
 exact (List.getElem?_eq_some_iff.1 hc).1

theorem HOk.upd {S S' : St} {o si : Nat} {H : Hd} {a b : List Sr} {r : Sr} (h : HOk S o H) (he : H.ser = a ++ r :: b) (hsi : gidV H.hv = some si) {sv : PV} {sm : List (Int × Int)} {c : Int}
  (h1 : S'.objs[o]? = some [H.hv, .map H.mi, .int .i64 c]) (h2 : S'.objs[si]? = some (serC (a ++ ⟨r.lv, sv, sm, r.lb⟩ :: b)))
  (hk : ∀ i x, i ≠ o → i ≠ si → gidV r.sv ≠ some i → S.objs[i]? = some x → S'.objs[i]? = some x) (hl : S.objs.length ≤ S'.objs.length)
  (hm : SmAt S' sv sm) (hp : ∀ id, gidV sv = some id → ∃ c, S'.objs[id]? = some c ∧ c ≠ []) (hg : ∀ id, gidV sv = some id → gidV r.sv = some id ∨ S.objs.length ≤ id)
  (hr : Rises sm ∧ ∀ q ∈ sm, 0 ≤ q.1 ∧ q.1 ≤ 1099511627776) (hc : c = (total (a ++ ⟨r.lv, sv, sm, r.lb⟩ :: b) : Nat)) (ht : total (a ++ ⟨r.lv, sv, sm, r.lb⟩ :: b) ≤ 65536) :
  HOk S' o ⟨H.hv, H.mi, a ++ ⟨r.lv, sv, sm, r.lb⟩ :: b, H.ids, c⟩ ∧ Stp o S H S' ⟨H.hv, H.mi, a ++ ⟨r.lv, sv, sm, r.lb⟩ :: b, H.ids, c⟩ := by
 have hlen : (a ++ ⟨r.lv, sv, sm, r.lb⟩ :: b).length = H.ser.length := by rw [he]; simp
 have hlt := h.lt
 have hd := h.dis
 have hown : ∀ s : Sr, ownH o ⟨H.hv, H.mi, a ++ s :: b, H.ids, c⟩ = (o :: H.mi :: (gl H.hv ++ gls a)) ++ (gl s.sv ++ gls b) := fun s => by simp [ownH, gls_app, gls_cons]
 have hown0 : ownH o H = (o :: H.mi :: (gl H.hv ++ gls a)) ++ (gl r.sv ++ gls b) := by simp [ownH, he, gls_app, gls_cons]
 rw [hown0] at hd
 have hmi : H.mi ≠ o ∧ H.mi ≠ si ∧ gidV r.sv ≠ some H.mi := by
  have hsm : si ∈ gl H.hv := mem_gl.2 hsi
  have h0 := hd
  simp only [List.cons_append, List.nodup_cons, List.mem_cons, List.mem_append, not_or] at h0
  refine ⟨fun e => h0.1.1 e.symm, fun e => h0.2.1.1.1 (by rw [e]; exact hsm), fun e => h0.2.1.2.1 (mem_gl.2 e)⟩
 have hoth : ∀ s ∈ a ++ b, ∀ i, gidV s.sv = some i → i ≠ o ∧ i ≠ si ∧ gidV r.sv ≠ some i := by
  intro s hs i hi
  have hsm : si ∈ gl H.hv := mem_gl.2 hsi
  have hin : i ∈ gls a ∨ i ∈ gls b := by
   rcases List.mem_append.1 hs with hs | hs
   ·exact .inl (List.mem_flatMap.2 ⟨s, hs, mem_gl.2 hi⟩)
   ·exact .inr (List.mem_flatMap.2 ⟨s, hs, mem_gl.2 hi⟩)
  have h0 := hd
  rw [List.nodup_append] at h0
  obtain ⟨n1, n2, n3⟩ := h0
  rw [List.nodup_append] at n2
  obtain ⟨_, _, n5⟩ := n2
  simp only [List.nodup_cons, List.mem_cons, List.mem_append, not_or] at n1
  obtain ⟨⟨_, _, na⟩, ⟨_, _⟩, n4⟩ := n1
  rw [List.nodup_append] at n4
  refine ⟨fun e => ?_, fun e => ?_, fun e => ?_⟩
  ·subst e
   rcases hin with q | q
   ·exact na q
   ·exact n3 i (by simp) i (by simp [q]) rfl
  ·subst e
   rcases hin with q | q
   ·exact n4.2.2 i hsm i q rfl
   ·exact n3 i (by simp [hsm]) i (by simp [q]) rfl
  ·rcases hin with q | q
   ·exact n3 i (by simp [q]) i (by simp [mem_gl.2 e]) rfl
   ·exact n5 i (mem_gl.2 e) i q rfl
 have hr0 := h.all r (by rw [he]; simp)
 have hnew : ∀ x ∈ gl sv, x ∈ gl r.sv ∨ (x ∉ o :: H.mi :: (gl H.hv ++ gls a) ∧ x ∉ gls b) := by
  intro x hx
  rcases hg x (mem_gl.1 hx) with q | q
  ·exact .inl (mem_gl.2 q)
  ·refine .inr ⟨fun hx2 => ?_, fun hx2 => ?_⟩
   ·have := hlt x (by rw [hown0]; exact List.mem_append_left _ hx2); omega
   ·have := hlt x (by rw [hown0]; exact List.mem_append_right _ (List.mem_append_right _ hx2)); omega
 refine ⟨?_, ?_, ?_, hl⟩
 ·exact {
   obj := h1
   ids := by
    have e : idsL 0 (a ++ (⟨r.lv, sv, sm, r.lb⟩ : Sr) :: b) = idsL 0 H.ser := idsL_same (by rw [he]; simp)
    simp only
    rw [e]
    exact hk _ _ hmi.1 hmi.2.1 hmi.2.2 h.ids
   ser := by
    rcases h.ser with ⟨e, _⟩ | ⟨si', e, _, _⟩
    ·rw [e] at hsi; cases hsi
    ·rw [e] at hsi; cases hsi
     exact .inr ⟨si, by simp only [hlen]; exact e, h2, by simp⟩
   all := fun s hs => by
    rcases List.mem_append.1 hs with q | q
    ·exact (h.all s (by rw [he]; simp [q])).mono fun i hi x hx => by
      obtain ⟨b1, b2, b3⟩ := hoth s (by simp [q]) i hi
      exact hk i x b1 b2 b3 hx
    ·rcases List.mem_cons.1 q with rfl | q
     ·exact ⟨hm, hp, hr0.lab, hr⟩
     ·exact (h.all s (by rw [he]; simp [q])).mono fun i hi x hx => by
       obtain ⟨b1, b2, b3⟩ := hoth s (by simp [q]) i hi
       exact hk i x b1 b2 b3 hx
   dis := by rw [hown]; exact nodup_mid hd (gl_nodup _) hnew
   idk := by
    simp only
    rw [h.idk]
    exact idsL_same (by rw [he]; simp)
   cnt := hc
   szs := by simp only [hlen]; exact h.szs
   tot := ht }
 ·intro i x hi hx
  rw [hown0] at hi
  simp only [List.cons_append, List.mem_cons, List.mem_append, not_or] at hi
  exact hk i x hi.1 (fun e => hi.2.2.1.1 (by rw [e]; exact mem_gl.2 hsi)) (fun e => hi.2.2.2.1 (mem_gl.2 e)) hx
 ·intro i hi
  rw [hown] at hi
  rw [hown0]
  rcases List.mem_append.1 hi with q | q
  ·exact .inl (List.mem_append_left _ q)
  ·rcases List.mem_append.1 q with q | q
   ·rcases hg i (mem_gl.1 q) with w | w
    ·exact .inl (List.mem_append_right _ (List.mem_append_left _ (mem_gl.2 w)))
    ·exact .inr w
   ·exact .inl (List.mem_append_right _ (List.mem_append_right _ q))
end Ps
