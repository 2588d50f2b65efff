/- The document's reading of a record, and Of. -/
import Derived.Test.YtooppbhipihjaaaWJ
namespace Ps
set_option linter.unusedSimpArgs false
set_option linter.unusedVariables false
open Go

theorem fn_374 : T.fn 374 = some (.code ref11_read) := rfl
theorem fn_325 : T.fn 325 = some (.code ref11_Of) := rfl

def trip : List Int → List RowM
  | a :: b :: c :: l => (a, b, zagN c.toNat) :: trip l
  | _ => []

theorem rd_loop {x : List Int} {vx : PV} (hx : Reads1 1 vx (nV x)) (hxl : x.length ≤ 200) (hb : ∀ z ∈ x, 0 ≤ z ∧ z < 9223372036854775808) {j : Nat} {S0 : St} (hj : S0.objs.length ≤ j) {kd vl vi lo hh f2 f13 : PV} {K : List Kt} {Q : Fr → St → Prop} : ∀ (m : Nat) (post pre : List Int) (l : List RowM), x = pre ++ post → post.length = 3 * m → l.length + m ≤ 100 → ∀ (fr : Fr) (S : St) (vr : PV),
    fr 2 = f2 → fr 7 = .ptr j 0 → fr 13 = f13 → fr 14 = vx → fr 16 = .int .i64 (pre.length : Int) → S.objs[j]? = some [kd, vl, vr, vi, lo, hh] → AccG S0 3 S vr (l.map rowV) →
    (∀ fr' S' vr', fr' 2 = f2 → fr' 7 = .ptr j 0 → fr' 13 = f13 → S'.objs[j]? = some [kd, vl, vr', vi, lo, hh] → (∀ a, a ≠ j → S'.objs[a]? = S.objs[a]?) → AccG S0 3 S' vr' ((l ++ trip post).map rowV) → Ok (gval T K fr' S') Q) →
    Ok (gval T (.lp ref11_read_l0 :: .blk 1 :: K) fr S) Q := by
  have hlen := hx.len
  rw [nV_len] at hlen
  intro m
  induction m with
  | zero =>
    intro post pre l e hp hl fr S vr h2 h7 h13 h14 h16 oj ha k
    have hpn : post = [] := List.length_eq_zero_iff.1 (by omega)
    subst hpn
    have hxx : x.length = pre.length := by rw [e]; simp
    have hw : IntKind.i64.wrap ((pre.length : Int) + 2) = (pre.length : Int) + 2 := wrap_i64 (by omega) (by omega)
    have hlt : ¬ (pre.length : Int) + 2 < (x.length : Int) := by omega
    rw [gval_lp]
    simp -implicitDefEqProofs [h14, h16, hlen, hw, hlt]
    exact k _ S vr (by simp [h2]) (by simp [h7]) (by simp [h13]) oj (fun _ _ => rfl) (by simpa [trip] using ha)
  | succ m ih =>
    intro post pre l e hp hl fr S vr h2 h7 h13 h14 h16 oj ha k
    match post, hp with
    | a :: b :: c :: post, hp =>
      simp only [List.length_cons] at hp
      have hxx : x.length = pre.length + (post.length + 3) := by rw [e]; simp
      have jl : j < S.objs.length := (List.getElem?_eq_some_iff.1 oj).1
      have hw1 : IntKind.i64.wrap ((pre.length : Int) + 1) = (pre.length : Int) + 1 := wrap_i64 (by omega) (by omega)
      have hw : IntKind.i64.wrap ((pre.length : Int) + 2) = (pre.length : Int) + 2 := wrap_i64 (by omega) (by omega)
      have hw3 : IntKind.i64.wrap ((pre.length : Int) + 3) = (pre.length : Int) + 3 := wrap_i64 (by omega) (by omega)
      have hlt : (pre.length : Int) + 2 < (x.length : Int) := by omega
      have g0 := nV_get (p := pre) (r := b :: c :: post) hx e (k := .i64)
      have g1 := nV_get (p := pre ++ [a]) (n := b) (r := c :: post) hx (by rw [e]; simp) (k := .i64)
      have g2 := nV_get (p := pre ++ [a, b]) (n := c) (r := post) hx (by rw [e]; simp) (k := .i64)
      have p1 : (((pre ++ [a]).length : Nat) : Int) = (pre.length : Int) + 1 := by simp
      have p2 : (((pre ++ [a, b]).length : Nat) : Int) = (pre.length : Int) + 2 := by simp
      rw [p1] at g1
      rw [p2] at g2
      obtain ⟨hc0, hc1⟩ := hb c (by rw [e]; simp)
      obtain ⟨n, rfl⟩ := Int.eq_ofNat_of_zero_le hc0
      have hd : (n : Int).tdiv 2 = ((n / 2 : Nat) : Int) := by rw [Int.tdiv_eq_ediv_of_nonneg (by omega)]; omega
      have hm : (n : Int).tmod 2 = ((n % 2 : Nat) : Int) := by rw [Int.tmod_eq_emod_of_nonneg (by omega)]; omega
      have w1' : IntKind.i64.wrap ((n : Int) / 2) = (n : Int) / 2 := wrap_i64 (by omega) (by omega)
      have w2 : IntKind.i64.wrap (-((n : Int) / 2)) = -((n : Int) / 2) := wrap_i64 (by omega) (by omega)
      have w3 : IntKind.i64.wrap (-((n : Int) / 2) - 1) = -((n : Int) / 2) - 1 := wrap_i64 (by omega) (by omega)
      obtain ⟨vr', S', f1, f2', f3⟩ := (ha.arrs [(1, 3)]).app (bytes := 24) [rowV (a, b, zagN n)] (by simp; omega)
      obtain ⟨so, stp⟩ := S'
      simp only at f3
      subst f3
      simp only [rowV] at f1
      obtain ⟨cc, co⟩ := accg_cells f2'
      have fin : ∀ fr', fr' 2 = f2 → fr' 7 = .ptr j 0 → fr' 13 = f13 → fr' 14 = vx → fr' 16 = .int .i64 ((pre.length : Int) + 3) →
          Ok (gval T (.lp ref11_read_l0 :: .blk 1 :: K) fr' ⟨S.objs.set j [kd, vl, vr', vi, lo, hh], stp⟩) Q := by
        intro fr' q2 q7 q13 q14 q16
        refine ih post (pre ++ [a, b, (n : Int)]) (l ++ [(a, b, zagN n)]) (by rw [e]; simp) (by omega) (by simp; omega) fr' ⟨S.objs.set j [kd, vl, vr', vi, lo, hh], stp⟩ vr' q2 q7 q13 q14 (by rw [q16]; simp) (by simp [jl]) ⟨f2'.grows.set hj, by simpa [rowV] using f2'.acc⟩ (fun fr' S' vr'' r2 r7 r13 rj ro ra => k fr' S' vr'' r2 r7 r13 rj (fun q hq => ?_) (by simpa [trip] using ra))
        rw [ro q hq]
        simp [List.getElem?_set_ne (Ne.symm hq)]
      rw [gval_lp]
      by_cases hn : n % 2 = 1
      · have hbb : ((n : Int) % 2 == 1) = true := by simp only [beq_iff_eq]; omega
        have hz : zagN n = -((n : Int) / 2) - 1 := by unfold zagN; rw [if_pos hn]; omega
        rw [hz] at f1
        simp -implicitDefEqProofs [h7, h14, h16, hlen, hw, hw1, hw3, hlt, g0, g1, g2, pt1, hd, hm, w1', w2, w3, hbb, loadP_ptr oj, peval, fillParts, putCells, pstep, elems, setParts, f1, cc, co, oj]
        exact fin _ (by simp [h2]) (by simp [h7]) (by simp [h13]) (by simp [h14]) (by simp)
      · have hbb : ((n : Int) % 2 == 1) = false := by
          rw [Bool.eq_false_iff]; simp only [ne_eq, beq_iff_eq]; omega
        have hz : zagN n = (n : Int) / 2 := by unfold zagN; rw [if_neg hn]; omega
        rw [hz] at f1
        simp -implicitDefEqProofs [h7, h14, h16, hlen, hw, hw1, hw3, hlt, g0, g1, g2, pt1, hd, hm, w1', w2, w3, hbb, loadP_ptr oj, peval, fillParts, putCells, pstep, elems, setParts, f1, cc, co, oj]
        exact fin _ (by simp [h2]) (by simp [h7]) (by simp [h13]) (by simp [h14]) (by simp)
    | [], hp => simp at hp; 
    | [_], hp => simp at hp; omega
    | [_, _], hp => simp at hp; omega

theorem numR_ok {s : List UInt8} : ∀ (m i : Nat) (l : List Int) (q : List Int × Nat), numR s m i l = some q → (∀ z ∈ l, 0 ≤ z ∧ z < 9223372036854775808) → q.1.length = l.length + m ∧ ∀ z ∈ q.1, 0 ≤ z ∧ z < 9223372036854775808 := by
  intro m
  induction m with
  | zero => intro i l q h hb; simp only [numR, Option.some.injEq] at h; subst h; exact ⟨rfl, hb⟩
  | succ m ih =>
    intro i l q h hb
    rw [numR] at h
    by_cases he : (getU s i).2.2 ≠ 0
    · rw [if_pos he] at h; cases h
    · rw [if_neg he] at h
      have hok := getU_ok (s := s) (i := (i : Int)) (by simpa using he)
      obtain ⟨a, b⟩ := ih _ _ q h (fun z hz => by
        rcases List.mem_append.1 hz with hz | hz
        · exact hb z hz
        · simp at hz; subst hz; omega)
      exact ⟨by rw [a]; simp; omega, b⟩

def rec0 : RecM := ⟨0, [], [], [], 0, 0⟩
/-- What the document reads of bytes behind the kind. -/
def rparK (s : List UInt8) (k p : Nat) : RecM × Bool :=
  if k = 1 then (⟨1, (readN s p).1, [], [], 0, 0⟩, decide ((readN s p).2.2 = 0)) else
  if k = 2 then (if (getU s p).2.2 ≠ 0 ∨ 64 < (getU s p).1 then (rec0, false) else match numR s (3 * (getU s p).1) (getU s p).2.1 [] with | none => (rec0, false) | some q => (⟨2, [], trip q.1, [], 0, 0⟩, true)) else
  if k = 3 then (if (postRd s p).2.2 ≠ 0 ∨ (getU s (postRd s p).2.1).2.2 ≠ 0 ∨ (getU s (getU s (postRd s p).2.1).2.1).2.2 ≠ 0 then (rec0, false) else
    (⟨3, [], [], (postRd s p).1, (getU s (postRd s p).2.1).1, (getU s (getU s (postRd s p).2.1).2.1).1⟩, true)) else (rec0, false)

theorem trip_len : ∀ (m : Nat) (l : List Int), l.length = 3 * m → (trip l).length = m
  | 0, [], _ => rfl
  | m + 1, a :: b :: c :: l, h => by
    simp only [List.length_cons] at h
    simp [trip, trip_len m l (by omega)]
  | m + 1, [], h => by simp at h
  | m + 1, [_], h => by simp at h; omega
  | m + 1, [_, _], h => by simp at h; omega
  | 0, _ :: _, h => by simp at h

theorem int_get0 {v : PV} {l : List Int} {n : Int} (h : SlI v (n :: l)) : iaddrP 1 v (.int .i64 0) = some (.ref [.int .i64 n]) := by
  have := nV_get (p := []) (n := n) (r := l) h.isl.reads rfl (k := .i64)
  simpa using this
theorem int_get1 {v : PV} {l : List Int} {m n : Int} (h : SlI v (m :: n :: l)) : iaddrP 1 v (.int .i64 1) = some (.ref [.int .i64 n]) := by
  have := nV_get (p := [m]) (n := n) (r := l) h.isl.reads rfl (k := .i64)
  simpa using this

def rdKind : PCode := (.seq (.seq (.clr [(37, 38)] (.region ref11_read_r5)) (.block 0 (.seq (.clr [(40, 41)] (.region ref11_read_r6)) (.cond (.tmp 39) (.seq (.clr [(9, 10), (41, 48)] (.region ref11_read_r7)) (.seq (.clr [(48, 50)] (.region ref11_read_r8)) (.seq (.clr [(50, 53)] (.region ref11_read_r9)) .ret))) (.seq (.clr [(54, 55)] (.region ref11_read_r10)) (.cond (.tmp 53) (.seq (.clr [(55, 62)] (.region ref11_read_r11)) (.seq (.seq (.clr [(62, 69)] (.region ref11_read_r12)) (.cond (.tmp 69) (.seq (.clr [(70, 71)] (.region ref11_read_r13)) .ret) .skip)) (.seq (.clr [(15, 16), (71, 82)] (.region ref11_read_r14)) (.seq (.seq (.region ref11_read_r15) (.block 1 (.loop ref11_read_l0))) (.seq (.clr [(122, 124)] (.region ref11_read_r22)) .ret))))) (.seq (.clr [(125, 126)] (.region ref11_read_r23)) (.cond (.tmp 124) (.seq (.clr [(126, 133)] (.region ref11_read_r24)) (.seq (.clr [(22, 23), (133, 140)] (.region ref11_read_r25)) (.seq (.seq (.clr [(140, 145)] (.region ref11_read_r26)) (.cond (.tmp 145) (.seq (.clr [(146, 147)] (.region ref11_read_r27)) .ret) .skip)) (.seq (.clr [(147, 157)] (.region ref11_read_r28)) (.seq (.clr [(157, 158)] (.region ref11_read_r29)) .ret))))) .skip)))))))) (.seq (.clr [(158, 159)] (.region ref11_read_r30)) .ret))
theorem rdKind_go (K : List Kt) (fr : Fr) (S : St) : gval T (.code rdKind :: K) fr S = gval T (.code (.seq (.seq (.clr [(37, 38)] (.region ref11_read_r5)) (.block 0 (.seq (.clr [(40, 41)] (.region ref11_read_r6)) (.cond (.tmp 39) (.seq (.clr [(9, 10), (41, 48)] (.region ref11_read_r7)) (.seq (.clr [(48, 50)] (.region ref11_read_r8)) (.seq (.clr [(50, 53)] (.region ref11_read_r9)) .ret))) (.seq (.clr [(54, 55)] (.region ref11_read_r10)) (.cond (.tmp 53) (.seq (.clr [(55, 62)] (.region ref11_read_r11)) (.seq (.seq (.clr [(62, 69)] (.region ref11_read_r12)) (.cond (.tmp 69) (.seq (.clr [(70, 71)] (.region ref11_read_r13)) .ret) .skip)) (.seq (.clr [(15, 16), (71, 82)] (.region ref11_read_r14)) (.seq (.seq (.region ref11_read_r15) (.block 1 (.loop ref11_read_l0))) (.seq (.clr [(122, 124)] (.region ref11_read_r22)) .ret))))) (.seq (.clr [(125, 126)] (.region ref11_read_r23)) (.cond (.tmp 124) (.seq (.clr [(126, 133)] (.region ref11_read_r24)) (.seq (.clr [(22, 23), (133, 140)] (.region ref11_read_r25)) (.seq (.seq (.clr [(140, 145)] (.region ref11_read_r26)) (.cond (.tmp 145) (.seq (.clr [(146, 147)] (.region ref11_read_r27)) .ret) .skip)) (.seq (.clr [(147, 157)] (.region ref11_read_r28)) (.seq (.clr [(157, 158)] (.region ref11_read_r29)) .ret))))) .skip)))))))) (.seq (.clr [(158, 159)] (.region ref11_read_r30)) .ret)) :: K) fr S := rfl
theorem ref11_read_eq : ref11_read = ⟨1, [.cell 2 true 6, .tmp 3],
  (.seq (.region ref11_read_r0) (.seq (.clr [(24, 30)] (.region ref11_read_r1)) (.seq (.seq (.clr [(30, 31)] (.region ref11_read_r2)) (.cond (.tmp 31) (.seq (.clr [(32, 33)] (.region ref11_read_r3)) .ret) .skip)) (.seq (.clr [(33, 37)] (.region ref11_read_r4)) rdKind)))), false⟩ := rfl

theorem put_e {cs : List PV} (h : cs.length = 6) : putCells emptyC 0 cs = cs := put_all (by rw [h]; rfl)

theorem rkind_ok {s : List UInt8} {v : PV} (hv : IsSl 1 v (ofBytes s)) (hs : s.length ≤ 67108864) {a j k p : Nat} (hk : k < 9223372036854775808) (haj : a ≠ j) {S0 : St} {Q : Fr → St → Prop} {fr : Fr} {S : St}
    (h0 : fr 0 = v) (h2 : fr 2 = .ptr a 0) (h5 : fr 5 = .int .i64 (p : Int)) (h7 : fr 7 = .ptr j 0) (oa : S.objs[a]? = some emptyC) (oj : S.objs[j]? = some [.int .i64 (k : Int), .nils, .nils, .nils, .int .i64 0, .int .i64 0])
    (hgr : Grows S0 S) (hal : S0.objs.length ≤ a) (hjl : S0.objs.length ≤ j)
    (k1 : ∀ fr' S' cs ok, fr' 2 = .ptr a 0 → fr' 3 = .bool ok → ok = (rparK s k p).2 → S'.objs[a]? = some cs → Grows S0 S' → cs.length = 6 → cs.all PV.one = true → PV.freeL cs = true → ((rparK s k p).2 = true → RecC (rparK s k p).1 (PV.frzL cs)) → Q fr' S') :
    Ok (gval T [.code rdKind] fr S) Q := by
  have al : a < S.objs.length := (List.getElem?_eq_some_iff.1 oa).1
  have jl : j < S.objs.length := (List.getElem?_eq_some_iff.1 oj).1
  have pt6 : ∀ (a b c d e f : PV), partOf true 6 [a, b, c, d, e, f] = some (.agg [a, b, c, d, e, f]) := fun a b c d e f => by simp [partOf]
  unfold rparK at k1
  unfold emptyC at oa
  have fail : ∀ (fr : Fr), fr 2 = .ptr a 0 → ∀ ok, ok = false → (rparK s k p).2 = false → Q (upd fr 3 (.bool ok)) ⟨S.objs.set a [.int .i64 0, .nils, .nils, .nils, .int .i64 0, .int .i64 0], S.tips⟩ := by
    intro fr h2 ok h3 h4
    subst h3
    refine k1 _ _ emptyC false (by simp [h2]) (by simp) h4.symm (by simp [emptyC, al]) (hgr.set hal) rfl rfl rfl (fun z => ?_)
    have : (rparK s k p).2 = true := z
    rw [h4] at this; cases this
  rw [rdKind_go]
  by_cases c1 : k = 1
  · subst c1
    rw [if_pos rfl] at k1
    obtain ⟨x, r1, v', rfl, r2⟩ := rread_val hv hs (i := (p : Int)) S
    have hchk := readN_chk (s := s) (i := (p : Int))
    obtain ⟨⟨l, nx, e⟩, hN⟩ : ∃ q, readN s (p : Int) = q := ⟨_, rfl⟩
    rw [hN] at r1 r2 k1 hchk
    simp only at r1 r2 k1 hchk
    obtain ⟨hl1, hl2, _⟩ := checkN_zero.1 hchk
    have hone := isl_one r2.isl
    have hcells := isl_cells r2.isl
    have hrec : RecC ⟨1, l, [], [], 0, 0⟩ [.int .i64 1, v', .nils, .nils, .int .i64 0, .int .i64 0] :=
      ⟨⟨v', .nils, .nils, rfl, r2.isl, isl_nils _, isl_nils _⟩, maxLen_ge (by simp only; omega), by simp [maxLen], by simp [maxLen], fun x hx => maxLen_ge (by have := (okLab_len (hl2 x hx)).1; omega)⟩
    have oj1 : (S.objs.set j [.int .i64 1, v', .nils, .nils, .int .i64 0, .int .i64 0])[j]? = some [.int .i64 1, v', .nils, .nils, .int .i64 0, .int .i64 0] := by simp [jl]
    have oa1 : (S.objs.set j [.int .i64 1, v', .nils, .nils, .int .i64 0, .int .i64 0])[a]? = some [.int .i64 0, .nils, .nils, .nils, .int .i64 0, .int .i64 0] := by rw [List.getElem?_set_ne (Ne.symm haj)]; exact oa
    have oj1' : (St.mk (S.objs.set j [.int .i64 1, v', .nils, .nils, .int .i64 0, .int .i64 0]) S.tips).objs[j]? = some [.int .i64 1, v', .nils, .nils, .int .i64 0, .int .i64 0] := oj1
    simp -implicitDefEqProofs [h0, h2, h5, h7, loadP_ptr oj, pt1, r1, pstep, putCells, oj, hone, hcells, loadP_ptr oj1', pt6, oa1]
    refine k1 _ _ [.int .i64 1, v', .nils, .nils, .int .i64 0, .int .i64 0] ((e : Int) == 0) (by simp [h2]) (by simp) ?_ (by simp [al]) ((hgr.set hjl).set hal) rfl (by simp [hone]) ?_ (fun _ => ?_)
    · rw [Bool.eq_iff_iff]; simp
    · simp [PV.freeL, PV.free, r2.free]
    · simpa [PV.frzL, PV.frz, r2.frz] using hrec
  by_cases c2 : k = 2
  · subst c2
    rw [if_neg (by decide), if_pos rfl] at k1
    obtain ⟨x, r1, r2⟩ := num_val hv hs (N := 1) (by omega) p S
    have r1' : cval T 399 [v, .int .i64 (p : Int), .int .i64 1] S = some (x, S) := r1
    have hok := getU_ok (s := s) (i := (p : Int))
    have hfail : (getU s p).2.2 ≠ 0 ∨ 64 < (getU s p).1 → (rparK s 2 p).2 = false := fun h => by unfold rparK; rw [if_neg (by decide), if_pos rfl, if_pos h]
    unfold numR at r2
    obtain ⟨⟨n, nx, e⟩, hN⟩ : ∃ q, getU s (p : Int) = q := ⟨_, rfl⟩
    rw [hN] at r2 k1 hok hfail
    simp only at r2 k1 hok hfail
    by_cases he : e = 0
    · subst he
      rw [if_neg (by decide)] at r2
      simp only [numR, List.nil_append] at r2
      obtain ⟨v', rfl, r2⟩ := r2
      have hg := int_get0 r2
      obtain ⟨o1, o2⟩ := hok rfl
      by_cases hn : 64 < n
      · have hn' : (64 : Int) < (n : Int) := by omega
        simp -implicitDefEqProofs [h0, h2, h5, h7, loadP_ptr oj, pt1, r1', hg, hn', pstep, peval, fillParts, putCells, oa]
        exact fail _ (by simp [h2]) _ rfl (hfail (.inr hn))
      · have hn' : ¬ (64 : Int) < (n : Int) := by omega
        rw [if_neg (by omega)] at k1
        obtain ⟨y, s1, s2⟩ := num_val hv hs (N := 3 * n) (by omega) nx S
        have hw3 : IntKind.i64.wrap (3 * (n : Int)) = 3 * (n : Int) := wrap_i64 (by omega) (by omega)
        have s1' : cval T 399 [v, .int .i64 (nx : Int), .int .i64 (3 * (n : Int))] S = some (y, S) := by simpa using s1
        cases hq : numR s (3 * n) nx [] with
        | none =>
          rw [hq] at s2 k1
          simp only [NumTo] at s2
          subst s2
          simp only at k1
          simp -implicitDefEqProofs [h0, h2, h5, h7, loadP_ptr oj, pt1, r1', hg, hn', hw3, s1']
          refine rd_loop (reads_nils 1) (by simp) (by simp) (j := j) (S0 := S0) hjl (kd := .int .i64 2) (vl := .nils) (vi := .nils) (lo := .int .i64 0) (hh := .int .i64 0) (f2 := .ptr a 0) (f13 := .bool false) 0 [] [] [] rfl rfl (by simp) _ S .nils (by simp [h2]) (by simp [h7]) (by simp) (by simp) (by simp) oj (accg_nil 3 hgr) (fun fr' S' vr' g2 g7 g13 gj go ga => ?_)
          have oa' : S'.objs[a]? = some [.int .i64 0, .nils, .nils, .nils, .int .i64 0, .int .i64 0] := by rw [go a haj]; exact oa
          have al' : a < S'.objs.length := (List.getElem?_eq_some_iff.1 oa').1
          obtain ⟨cc, co⟩ := accg_cells ga
          have hfr : vr'.free = true := by
            rcases ga.acc with ⟨h, _⟩ | ⟨id, _, h, _⟩
            · rw [h]; rfl
            · rw [h]; simp [PV.free, rows_free, PV.freeL, trip]
          simp -implicitDefEqProofs [g2, g7, g13, loadP_ptr gj, pt6, pstep, putCells, oa', co, cc]
          exact k1 _ _ [.int .i64 2, .nils, vr', .nils, .int .i64 0, .int .i64 0] false (by simp [g2]) (by simp) rfl (by simp [al']) (ga.grows.set hal) rfl (by simp [co]) (by simp [PV.freeL, PV.free, hfr]) (fun z => by cases z)
        | some q =>
          rw [hq] at s2 k1
          obtain ⟨x', i'⟩ := q
          obtain ⟨v2, rfl, s3⟩ := s2
          obtain ⟨q1, q2⟩ := numR_ok _ _ _ _ hq (by simp)
          simp only at k1 q1 q2
          simp only [List.length_nil, Nat.zero_add] at q1
          simp -implicitDefEqProofs [h0, h2, h5, h7, loadP_ptr oj, pt1, r1', hg, hn', hw3, s1']
          refine rd_loop s3.isl.reads (by omega) q2 (j := j) (S0 := S0) hjl (kd := .int .i64 2) (vl := .nils) (vi := .nils) (lo := .int .i64 0) (hh := .int .i64 0) (f2 := .ptr a 0) (f13 := .bool true) n x' [] [] rfl q1 (by simp; omega) _ S .nils (by simp [h2]) (by simp [h7]) (by simp) (by simp) (by simp) oj (accg_nil 3 hgr) (fun fr' S' vr' g2 g7 g13 gj go ga => ?_)
          have oa' : S'.objs[a]? = some [.int .i64 0, .nils, .nils, .nils, .int .i64 0, .int .i64 0] := by rw [go a haj]; exact oa
          have al' : a < S'.objs.length := (List.getElem?_eq_some_iff.1 oa').1
          obtain ⟨cc, co⟩ := accg_cells ga
          rw [List.nil_append] at ga
          have hfz : vr'.free = true ∧ vr'.frz = slF vr' ((trip x').map rowV) := by
            rcases ga.acc with ⟨h, _⟩ | ⟨id, _, h, _⟩
            · rw [h]; exact ⟨rfl, rfl⟩
            · rw [h]; exact ⟨by simp [PV.free, rows_free, PV.freeL], by simp [slF, PV.frz, rows_frz, PV.frzL]⟩
          have htl := trip_len n x' q1
          simp -implicitDefEqProofs [g2, g7, g13, loadP_ptr gj, pt6, pstep, putCells, oa', co, cc]
          refine k1 _ _ [.int .i64 2, .nils, vr', .nils, .int .i64 0, .int .i64 0] true (by simp [g2]) (by simp) rfl (by simp [al']) (ga.grows.set hal) rfl (by simp [co]) (by simp [PV.freeL, PV.free, hfz.1]) (fun z => ?_)
          have hrec : RecC ⟨2, [], trip x', [], 0, 0⟩ [.int .i64 2, .nils, slF vr' ((trip x').map rowV), .nils, .int .i64 0, .int .i64 0] :=
            ⟨⟨.nils, _, .nils, rfl, isl_nils _, slF_isSl ga (rows_cells _), isl_nils _⟩, by simp [maxLen], maxLen_ge (by simp only; omega), by simp [maxLen], by simp⟩
          simpa [PV.frzL, PV.frz, hfz.2] using hrec
    · rw [if_pos he] at r2
      simp only [NumTo] at r2
      subst r2
      simp -implicitDefEqProofs [h0, h2, h5, h7, loadP_ptr oj, pt1, r1', pstep, peval, fillParts, putCells, oa]
      exact fail _ (by simp [h2]) _ rfl (hfail (.inl he))
  by_cases c3 : k = 3
  · subst c3
    rw [if_neg (by decide), if_neg (by decide), if_pos rfl] at k1
    obtain ⟨x, r1, v', rfl, r2⟩ := rpread_val hv hs (i := (p : Int)) S
    have hll := postRd_len (s := s) (i := (p : Int))
    have hfail : (postRd s p).2.2 ≠ 0 ∨ (getU s (postRd s p).2.1).2.2 ≠ 0 ∨ (getU s (getU s (postRd s p).2.1).2.1).2.2 ≠ 0 → (rparK s 3 p).2 = false := fun h => by unfold rparK; rw [if_neg (by decide), if_neg (by decide), if_pos rfl, if_pos h]
    obtain ⟨⟨l, nx, e⟩, hN⟩ : ∃ q, postRd s (p : Int) = q := ⟨_, rfl⟩
    rw [hN] at r1 r2 k1 hll hfail
    simp only at r1 r2 k1 hll hfail
    obtain ⟨y, s1, s2⟩ := num_val hv hs (N := 2) (by omega) nx S
    have s1' : cval T 399 [v, .int .i64 (nx : Int), .int .i64 2] S = some (y, S) := s1
    unfold numR at s2
    obtain ⟨⟨n1, nx1, e1⟩, hN1⟩ : ∃ q, getU s (nx : Int) = q := ⟨_, rfl⟩
    rw [hN1] at s2 k1 hfail
    simp only at s2 k1 hfail
    have hone := isl_one r2.isl
    have hcells := isl_cells r2.isl
    have hbad : y = .tup [.nils, .int .i64 0, .bool false] → (rparK s 3 p).2 = false → Ok (gval T [.code rdKind] fr S) Q := by
      intro hy hf
      subst hy
      rw [rdKind_go]
      simp -implicitDefEqProofs [h0, h2, h5, h7, loadP_ptr oj, pt1, r1, s1', pstep, peval, fillParts, putCells, oa]
      exact fail _ (by simp [h2]) _ rfl hf
    by_cases he1 : e1 = 0
    · subst he1
      rw [if_neg (by decide)] at s2
      unfold numR at s2
      obtain ⟨⟨n2, nx2, e2⟩, hN2⟩ : ∃ q, getU s (nx1 : Int) = q := ⟨_, rfl⟩
      rw [hN2] at s2 k1 hfail
      simp only at s2 k1 hfail
      by_cases he2 : e2 = 0
      · subst he2
        rw [if_neg (by decide)] at s2
        simp only [numR, List.nil_append, List.cons_append] at s2
        obtain ⟨v2, rfl, s3⟩ := s2
        have hg0 := int_get0 s3
        have hg1 := int_get1 s3
        by_cases he : e = 0
        · subst he
          rw [if_neg (by simp)] at k1
          have hrec : RecC ⟨3, [], [], l, (n1 : Int), (n2 : Int)⟩ [.int .i64 3, .nils, .nils, v', .int .i64 (n1 : Int), .int .i64 (n2 : Int)] :=
            ⟨⟨.nils, .nils, v', rfl, isl_nils _, isl_nils _, r2.isl⟩, by simp [maxLen], by simp [maxLen], maxLen_ge (by simp only; omega), by simp⟩
          have oj1 : (S.objs.set j [.int .i64 3, .nils, .nils, v', .int .i64 0, .int .i64 0])[j]? = some [.int .i64 3, .nils, .nils, v', .int .i64 0, .int .i64 0] := by simp [jl]
          have oj2 : (S.objs.set j [.int .i64 3, .nils, .nils, v', .int .i64 (n1 : Int), .int .i64 0])[j]? = some [.int .i64 3, .nils, .nils, v', .int .i64 (n1 : Int), .int .i64 0] := by simp [jl]
          have oj3 : (St.mk (S.objs.set j [.int .i64 3, .nils, .nils, v', .int .i64 (n1 : Int), .int .i64 (n2 : Int)]) S.tips).objs[j]? = some [.int .i64 3, .nils, .nils, v', .int .i64 (n1 : Int), .int .i64 (n2 : Int)] := by simp [jl]
          have oa1 : (S.objs.set j [.int .i64 3, .nils, .nils, v', .int .i64 (n1 : Int), .int .i64 (n2 : Int)])[a]? = some [.int .i64 0, .nils, .nils, .nils, .int .i64 0, .int .i64 0] := by rw [List.getElem?_set_ne (Ne.symm haj)]; exact oa
          simp -implicitDefEqProofs [h0, h2, h5, h7, loadP_ptr oj, pt1, r1, s1', hg0, hg1, pstep, putCells, oj, hone, hcells, oj1, oj2, loadP_ptr oj3, pt6, oa1]
          refine k1 _ _ [.int .i64 3, .nils, .nils, v', .int .i64 (n1 : Int), .int .i64 (n2 : Int)] true (by simp [h2]) (by simp) rfl (by simp [al]) ((hgr.set hjl).set hal) rfl (by simp [hone]) ?_ (fun _ => ?_)
          · simp [PV.freeL, PV.free, r2.free]
          · simpa [PV.frzL, PV.frz, r2.frz] using hrec
        · have hne : ((e : Int) != 0) = true := by simpa using he
          simp -implicitDefEqProofs [h0, h2, h5, h7, loadP_ptr oj, pt1, r1, s1', hne, pstep, peval, fillParts, putCells, oa]
          exact fail _ (by simp [h2]) _ rfl (hfail (.inl he))
      · rw [if_pos he2] at s2
        rw [← rdKind_go]
        exact hbad s2 (hfail (.inr (.inr he2)))
    · rw [if_pos he1] at s2
      rw [← rdKind_go]
      exact hbad s2 (hfail (.inr (.inl he1)))
  · have b1 : ((k : Int) == 1) = false := by
      rw [Bool.eq_false_iff]; simp only [ne_eq, beq_iff_eq]; omega
    have b2 : ((k : Int) == 2) = false := by
      rw [Bool.eq_false_iff]; simp only [ne_eq, beq_iff_eq]; omega
    have b3 : ((k : Int) == 3) = false := by
      rw [Bool.eq_false_iff]; simp only [ne_eq, beq_iff_eq]; omega
    simp -implicitDefEqProofs [h0, h2, h5, h7, loadP_ptr oj, pt1, b1, b2, b3, pstep, peval, fillParts, putCells, oa]
    exact fail _ (by simp [h2]) _ rfl (by unfold rparK; rw [if_neg c1, if_neg c2, if_neg c3])
end Ps
