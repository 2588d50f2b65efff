/- A text quoted: the plain law, and the program's Quote and Literal, walked; the law of RegexQuoted. -/
import Derived.Test.YtmhigcjhjmcpcaaRxQ
namespace Ps
set_option linter.unusedSimpArgs false
set_option linter.unusedVariables false
open Go

theorem fn_483 : T.fn 483 = some (.code regex_Quote) := rfl
theorem fn_484 : T.fn 484 = some (.code regex_Literal) := rfl
theorem fn_485 : T.fn 485 = some (.code regex_text) := rfl
theorem fn_486 : T.fn 486 = some (.code slices_Index_bool) := rfl
theorem fn_482 : T.fn 482 = some (.code law07_RegexQuoted) := rfl

def quoteL : List UInt8 → List UInt8
  | [] => []
  | c :: l => if plainB c then c :: quoteL l else 92 :: c :: quoteL l
theorem quoteL_app (a b : List UInt8) : quoteL (a ++ b) = quoteL a ++ quoteL b := by
  induction a with
  | nil => rfl
  | cons c a ih => simp only [List.cons_append, quoteL, ih]; split <;> simp
theorem quoteL_len (a : List UInt8) : a.length ≤ (quoteL a).length ∧ (quoteL a).length ≤ 2 * a.length := by
  induction a with
  | nil => simp [quoteL]
  | cons c a ih => simp only [quoteL]; split <;> simp <;> omega

def rowOf : List UInt8 → Nd
  | [] => .rnil
  | c :: l => .rcons (.one (fun i => i == c.toNat)) (rowOf l)
theorem mt_rowOf : ∀ {s t : List UInt8}, Mt (rowOf s) t ↔ t = s
  | [], t => by rw [rowOf, mt_rnil]
  | c :: s, t => by
    rw [rowOf, mt_rcons]
    constructor
    · rintro ⟨u, v, rfl, h1, h2⟩
      obtain ⟨c', rfl, h⟩ := mt_one.1 h1
      have hc : c' = c := UInt8.toNat_inj.1 (by simpa using h)
      rw [hc, mt_rowOf.1 h2]; rfl
    · rintro rfl
      exact ⟨[c], s, rfl, mt_one.2 ⟨c, rfl, by simp⟩, mt_rowOf.2 rfl⟩

theorem quote_head {s : List UInt8} {x : Nd} : markF x (quoteL s) = (x, quoteL s) := by
  cases s with
  | nil => rfl
  | cons c s =>
    simp only [quoteL]
    split
    · rename_i h
      have : ¬ (c = 42 ∨ c = 43 ∨ c = 63) := by rintro (rfl | rfl | rfl) <;> (revert h; decide)
      simp only [markF]; rw [if_neg this]
    · simp [markF]
theorem row_quote : ∀ s : List UInt8, rowW (quoteL s) = some (rowOf s, 0, [])
  | [] => row_nil
  | c :: s => by
    have ih := row_quote s
    by_cases h : plainB c = true
    · have e : quoteL (c :: s) = c :: quoteL s := by simp [quoteL, h]
      have a1 : atomW (c :: quoteL s) = some (.one (fun i => i == c.toNat), 0, quoteL s) := by
        rw [atomW_eq]; simp only; rw [if_pos h]
      have r1 := row_cons (r := rowOf s) (d2 := 0) (w2 := []) rfl a1 (by rw [quote_head]; exact ih)
      rw [quote_head] at r1
      rw [e]; exact r1
    · have e : quoteL (c :: s) = 92 :: c :: quoteL s := by simp [quoteL, h]
      have a1 : atomW (92 :: c :: quoteL s) = some (.one (fun i => i == c.toNat), 0, quoteL s) := by
        rw [atomW_eq]; simp only; rw [if_neg (by decide), if_neg (by decide), if_pos trivial, if_neg h]
      have r1 := row_cons (r := rowOf s) (d2 := 0) (w2 := []) rfl a1 (by rw [quote_head]; exact ih)
      rw [quote_head] at r1
      rw [e]; exact r1
theorem pat_quote (s : List UInt8) : patW (quoteL s) = some (.econs (rowOf s) .enil, 0, []) := pat_row (row_quote s)
theorem quote_chk {s : List UInt8} (h : (quoteL s).length ≤ 64) : chkP (quoteL s) = 0 := by rw [chk_iff (pat_quote s), if_neg (by omega), if_neg (by omega)]
theorem quote_fits {s t : List UInt8} (h : (quoteL s).length ≤ 64) (ht : t.length ≤ 64) : fitsP (quoteL s) t = (t == s) := by
  rw [Bool.eq_iff_iff, fitsP_iff (pat_quote s) (quote_chk h) ht, mt_econs, mt_rowOf]
  simp only [beq_iff_eq]
  exact ⟨fun h => h.elim id (fun q => absurd q mt_enil), .inl⟩

/-! The walk. -/
theorem ofB_app (a b : List UInt8) : ofBytes (a ++ b) = ofBytes a ++ ofBytes b := by simp [ofBytes]
theorem ofB_len (a : List UInt8) : (ofBytes a).length = a.length := by simp [ofBytes]
theorem ofB_cells (a : List UInt8) : ∀ e ∈ ofBytes a, e.cells.length = 1 := by
  intro e he
  obtain ⟨x, _, rfl⟩ := List.mem_map.1 he
  rfl
theorem ofB_free (a : List UInt8) : PV.freeL (ofBytes a) = true := freeL_map _ (fun _ => rfl) a
theorem ofB_frz (a : List UInt8) : PV.frzL (ofBytes a) = ofBytes a := frzL_map' _ (fun _ => rfl) a
theorem bytesOf_ofB (s : List UInt8) : bytesOf (ofBytes s) = some s := by
  induction s with
  | nil => rfl
  | cons b s ih =>
    simp only [ofBytes, List.map_cons, bytesOf] at ih ⊢
    rw [ih]
    simp
theorem toStr_ofB {v : PV} {s : List UInt8} (h : IsSl 1 v (ofBytes s)) : toStrP v = some (.str s) := by
  rcases h with ⟨rfl, h⟩ | ⟨tip, sp, rfl, _⟩
  · cases s with
    | nil => rfl
    | cons b s => simp [ofBytes] at h
  · simp only [toStrP, bytesOf_ofB]

theorem quote_loop {s : List UInt8} (hs : s.length ≤ 10000000) {S0 : St} {K : List Kt} {Q : Fr → St → Prop} : ∀ (r p : List UInt8) (fr : Fr) (S : St), s = p ++ r →
    fr 0 = .str s → fr 6 = .int .i64 s.length → fr 7 = .int .i64 p.length → AccG S0 1 S (fr 3) (ofBytes (quoteL p)) →
    (∀ fr' S', AccG S0 1 S' (fr' 3) (ofBytes (quoteL s)) → Ok (gval T K fr' S') Q) →
    Ok (gval T (.lp regex_Quote_l0 :: .blk 0 :: K) fr S) Q := by
  intro r
  induction r with
  | nil =>
    intro p fr S hp h0 h6 h7 ha k
    rw [List.append_nil] at hp
    subst hp
    rw [gval_lp]
    simp -implicitDefEqProofs [h6, h7]
    exact k _ S (by simpa using ha)
  | cons c r ih =>
    intro p fr S hp h0 h6 h7 ha k
    have hi : p.length < s.length := by rw [hp]; simp
    have hi' : (p.length : Int) < (s.length : Int) := by omega
    have hc : s[p.length]? = some c := by simp [hp]
    have hc' : s[p.length] = c := by simp [hp]
    have hq := quoteL_len p
    have hw := wrap_len (a := p.length) (by omega)
    rw [gval_lp]
    cases hpl : plainB c with
    | true =>
      obtain ⟨v', S', a1, a2, a3⟩ := (ha.arrs [(1, 1)]).app (bytes := 1) [.int .u8 c.toNat] (by rw [ofB_len]; simp; omega)
      have hqq : quoteL (p ++ [c]) = quoteL p ++ [c] := by rw [quoteL_app]; simp [quoteL, hpl]
      have a2' : AccG S0 1 S' v' (ofBytes (quoteL (p ++ [c]))) := by rw [hqq, ofB_app]; exact a2
      simp -implicitDefEqProofs [h0, h6, h7, hi, hi', hc, hc', plain_pval, plain_val, hpl, pstep, elems, setParts, a1, hw]
      exact ih (p ++ [c]) _ S' (by simp [hp]) (by simp [h0]) (by simp [h6]) (by simp [hw]) (by simpa using a2') k
    | false =>
      obtain ⟨v1, S1, b1, b2, b3⟩ := (ha.arrs [(1, 1)]).app (bytes := 1) [.int .u8 92] (by rw [ofB_len]; simp; omega)
      obtain ⟨v', S', a1, a2, a3⟩ := (b2.arrs [(1, 1)]).app (bytes := 1) [.int .u8 c.toNat] (by simp only [List.length_append, ofB_len, List.length_cons, List.length_nil]; omega)
      have hqq : quoteL (p ++ [c]) = quoteL p ++ [92] ++ [c] := by rw [quoteL_app]; simp [quoteL, hpl]
      have a2' : AccG S0 1 S' v' (ofBytes (quoteL (p ++ [c]))) := by rw [hqq, ofB_app, ofB_app]; exact a2
      simp -implicitDefEqProofs [h0, h6, h7, hi, hi', hc, hc', plain_pval, plain_val, hpl, pstep, elems, setParts, b1, a1, hw]
      exact ih (p ++ [c]) _ S' (by simp [hp]) (by simp [h0]) (by simp [h6]) (by simp [hw]) (by simpa using a2') k
theorem quote_pval {s : List UInt8} (hs : s.length ≤ 10000000) : pval T 483 [.str s] = some (.str (quoteL s)) := by
  refine pval_st ?_ rfl rfl
  refine cval_ok' fn_483 rfl ?_
  simp -implicitDefEqProofs [regex_Quote]
  refine quote_loop hs s [] _ St0 rfl (by simp) (by simp) (by simp) (by simpa [quoteL, ofBytes] using accg_nil 1 (Grows.refl St0)) (fun fr' S' ha => ?_)
  simp -implicitDefEqProofs [toStr_ofB (ha.isSl (ofB_cells _))]
  exact fin_gs ha.grows

theorem bc_reads (f : Nat → Bool) : Reads1 1 (.sl none (bc f) []) (bc f) := reads_sl (fun e he => by
  obtain ⟨x, _, rfl⟩ := List.mem_map.1 he
  rfl)
theorem bc_at (f : Nat → Bool) {i : Nat} (h : i < 256) (h2 : i < (bc f).length) : (bc f)[i]'h2 = .bool (f i) := by
  have := bc_get f h
  rw [List.getElem?_eq_getElem h2] at this
  exact Option.some.inj this
theorem index_loop {c : UInt8} {K : List Kt} {Q : Fr → St → Prop} {S : St} : ∀ (m i : Nat) (fr : Fr), c.toNat - i = m → i ≤ c.toNat →
    fr 0 = .sl none (bc (fun i => i == c.toNat)) [] → fr 1 = .bool true → fr 7 = .int .i64 256 → fr 8 = .int .i64 i →
    (∀ fr', fr' 4 = .int .i64 c.toNat → Q fr' S) →
    Ok (gval T (.lp slices_Index_bool_l0 :: .blk 0 :: K) fr S) Q := by
  intro m
  have hc := c.toNat_lt
  induction m with
  | zero =>
    intro i fr hm hi h0 h1 h7 h8 k
    have he : i = c.toNat := by omega
    subst he
    have hlt : (c.toNat : Int) < 256 := by omega
    have hg := (bc_reads (fun i => i == c.toNat)).get c.toNat (by rw [bc_len]; exact hc) .i64
    have hge : (bc (fun i => i == c.toNat))[c.toNat]'(by rw [bc_len]; exact hc) = .bool true := by rw [bc_at _ hc]; simp
    rw [hge] at hg
    simp only [PV.cells] at hg
    have hp1 : partOf false 1 [PV.bool true] = some (.bool true) := rfl
    rw [gval_lp]
    simp -implicitDefEqProofs [h0, h1, h7, h8, hlt, hg, hp1, eqbP, negIf]
    exact k _ (by simp)
  | succ m ih =>
    intro i fr hm hi h0 h1 h7 h8 k
    have hi2 : i < 256 := by omega
    have hlt : (i : Int) < 256 := by omega
    have hg := (bc_reads (fun i => i == c.toNat)).get i (by rw [bc_len]; exact hi2) .i64
    have hge : (bc (fun i => i == c.toNat))[i]'(by rw [bc_len]; exact hi2) = .bool false := by rw [bc_at _ hi2]; simp; omega
    rw [hge] at hg
    simp only [PV.cells] at hg
    have hp1 : partOf false 1 [PV.bool false] = some (.bool false) := rfl
    have hw := wrap_len (a := i) (by omega)
    rw [gval_lp]
    simp -implicitDefEqProofs [h0, h1, h7, h8, hlt, hg, hp1, eqbP, negIf, hw]
    exact ih (i + 1) _ (by omega) (by omega) (by simp [h0]) (by simp [h1]) (by simp [h7]) (by simp [hw]) k
theorem index_val (c : UInt8) (S : St) : cval T 486 [.sl none (bc (fun i => i == c.toNat)) [], .bool true] S = some (.int .i64 c.toNat, S) := by
  have hl := (bc_reads (fun i => i == c.toNat)).len
  rw [bc_len] at hl
  have hl' : lenP false (.sl none (bc (fun i => i == c.toNat)) []) = some (.int .i64 256) := hl
  refine cval_ok' fn_486 rfl ?_
  simp -implicitDefEqProofs [slices_Index_bool, hl']
  refine index_loop (c := c) _ 0 _ rfl (by omega) (by simp) (by simp) (by simp) (by simp) (fun fr' h => ?_)
  rw [ends1, h]
  exact fin_gi (Grows.refl S)

def oneC (c : UInt8) : PV := .iface 12 (.ref (bc (fun i => i == c.toNat)))
theorem row_shape : ∀ {s : List UInt8} {es : List PV}, RowR (rowOf s) es → es = s.map oneC
  | [], es, h => by cases h; rfl
  | c :: s, es, h => by
    cases h with
    | cons h t =>
      have := row_shape t
      subst this
      cases h with
      | one => rfl
      | row h => cases h
      | pat h => cases h
/-- The tree of a quoted text, as a value. -/
theorem quote_shape {s : List UInt8} {v : PV} (h : NdR (.econs (rowOf s) .enil) v) (hz : v.frz = v) : v = .iface 5 (.sl none [.iface 10 (.sl none (s.map oneC) [])] []) := by
  cases h with
  | row h => cases h
  | pat h =>
    cases h with
    | cons h t =>
      cases t
      cases s with
      | nil =>
        cases h with
        | row h =>
          have := row_shape (s := []) h
          subst this
          simp only [PV.frz, PV.frzL] at hz
          rw [← hz]; rfl
        | pat h => cases h
      | cons c s =>
        cases h with
        | row h =>
          have := row_shape (s := c :: s) h
          subst this
          simp only [PV.frz, PV.frzL] at hz
          have hm : PV.frzL ((c :: s).map oneC) = (c :: s).map oneC := frzL_map' _ (fun c => by simp [oneC, PV.frz, frzL_bc]) _
          rw [hm] at hz
          exact hz.symm
        | pat h => cases h

theorem text_loop {s : List UInt8} (hs : s.length ≤ 100000) {S0 : St} {K : List Kt} {Q : Fr → St → Prop} : ∀ (r p : List UInt8) (fr : Fr) (S : St), s = p ++ r →
    fr 28 = .sl none (s.map oneC) [] → fr 29 = .int .i64 s.length → fr 30 = .int .i64 p.length → AccG S0 1 S (fr 6) (ofBytes p) →
    (∀ fr' S', AccG S0 1 S' (fr' 6) (ofBytes s) → Ok (gval T K fr' S') Q) →
    Ok (gval T (.lp regex_text_l0 :: .blk 1 :: K) fr S) Q := by
  have hrd : Reads1 1 (.sl none (s.map oneC) []) (s.map oneC) := reads_sl (fun e he => by
    obtain ⟨x, _, rfl⟩ := List.mem_map.1 he
    rfl)
  intro r
  induction r with
  | nil =>
    intro p fr S hp h28 h29 h30 ha k
    rw [List.append_nil] at hp
    subst hp
    rw [gval_lp]
    simp -implicitDefEqProofs [h29, h30]
    exact k _ S (by simpa using ha)
  | cons c r ih =>
    intro p fr S hp h28 h29 h30 ha k
    have hi : p.length < s.length := by rw [hp]; simp
    have hi' : (p.length : Int) < (s.length : Int) := by omega
    have hg := hrd.get p.length (by rw [List.length_map]; exact hi) .i64
    have hge : (s.map oneC)[p.length]'(by rw [List.length_map]; exact hi) = oneC c := by simp [hp]
    rw [hge] at hg
    have hg' : iaddrP 1 (.sl none (s.map oneC) []) (.int .i64 (p.length : Int)) = some (.ref [.iface 12 (.ref (bc (fun i => i == c.toNat)))]) := hg
    have hp1 : partOf false 1 [PV.iface 12 (.ref (bc (fun i => i == c.toNat)))] = some (.iface 12 (.ref (bc (fun i => i == c.toNat)))) := rfl
    have hw := wrap_len (a := p.length) (by omega)
    have hcl := c.toNat_lt
    have hwc : IntKind.u8.wrap (c.toNat : Int) = (c.toNat : Int) := wrap_u8 (by omega) (by omega)
    have hb : bounds 256 256 none none = some (0, 256) := rfl
    have htk : (bc (fun i => i == c.toNat)).take 256 = bc (fun i => i == c.toNat) := List.take_of_length_le (by rw [bc_len]; omega)
    have hdr : (bc (fun i => i == c.toNat)).drop 256 = [] := List.drop_eq_nil_of_le (by rw [bc_len]; omega)
    have hsl : slcaP 256 1 none none (.ref (bc (fun i => i == c.toNat))) = some (.sl none (bc (fun i => i == c.toNat)) []) := by
      simp only [slcaP]
      rw [if_pos ⟨trivial, bc_len _, all_bc _⟩, hb]
      simp only
      rw [if_pos (by omega), htk, hdr]
      rfl
    have hix := index_val c S
    obtain ⟨v', S', a1, a2, a3⟩ := (ha.arrs [(1, 1)]).app (bytes := 1) [.int .u8 c.toNat] (by rw [ofB_len]; simp; omega)
    have a2' : AccG S0 1 S' v' (ofBytes (p ++ [c])) := by rw [ofB_app]; exact a2
    rw [gval_lp]
    simp -implicitDefEqProofs [h28, h29, h30, hi', hg', hp1, hsl, hix, hwc, pstep, elems, setParts, a1, hw]
    exact ih (p ++ [c]) _ S' (by simp [hp]) (by simp [h28]) (by simp [h29]) (by simp [hw]) (by simpa using a2') k

theorem text_row {s : List UInt8} (hs : s.length ≤ 100000) (S : St) : ∃ v, cval T 485 [.iface 10 (.sl none (s.map oneC) [])] S = some (.tup [v, .bool true], S) ∧ IsSl 1 v (ofBytes s) ∧ v.free = true ∧ v.frz = v := by
  have key := cval_ex (T := T) (f := 485) (c := regex_text) fn_485 (args := [.iface 10 (.sl none (s.map oneC) [])]) (S := S) rfl (R := fun r S2 => S2 = S ∧ ∃ v, r = .tup [v, .bool true] ∧ IsSl 1 v (ofBytes s) ∧ v.free = true ∧ v.frz = v) ?_
  · obtain ⟨r, S2, h1, rfl, v, rfl, h2⟩ := key
    exact ⟨v, h1, h2⟩
  have hl : lenP false (.sl none (s.map oneC) []) = some (.int .i64 s.length) := by simp [lenP]
  have main : ∀ Q : Fr → St → Prop, (∀ fr S', AccG S 1 S' (fr 2) (ofBytes s) → fr 3 = .bool true → Q fr S') → Ok (gval T [.code regex_text.body] (argsFr [.iface 10 (.sl none (s.map oneC) [])]) S) Q := by
    intro Q ends
    simp -implicitDefEqProofs [regex_text, hl]
    refine text_loop hs (S0 := S) s [] _ S rfl (by simp) (by simp) (by simp) (by simpa [ofBytes] using accg_nil 1 (Grows.refl S)) (fun fr' S' ha => ?_)
    simp -implicitDefEqProofs
    exact ends _ S' (by simpa using ha) (by simp)
  refine main _ (fun fr S' ha h3 => ⟨[fr 2, fr 3], rfl, ?_⟩)
  show (finish false S S' (.tup [fr 2, fr 3])).2 = S ∧ ∃ v, (finish false S S' (.tup [fr 2, fr 3])).1 = .tup [v, .bool true] ∧ _
  rw [h3]
  have hf : (fr 2).free = true ∧ (fr 2).frz = slF (fr 2) (ofBytes s) := by
    rcases ha.acc with ⟨h, _⟩ | ⟨id, _, h, _⟩
    · rw [h]; exact ⟨rfl, rfl⟩
    · rw [h]; exact ⟨by simp [PV.free, ofB_free, PV.freeL], by simp [slF, PV.frz, ofB_frz, PV.frzL]⟩
  rw [fin_free ha.grows (by simp [PV.free, PV.freeL, hf.1])]
  refine ⟨rfl, (fr 2).frz, by simp [PV.frz, PV.frzL], ?_, frz_free _ hf.1, frz_frz _⟩
  rw [hf.2]
  exact slF_isSl ha (ofB_cells _)
theorem text_pat {s : List UInt8} (hs : s.length ≤ 100000) (S : St) : ∃ v, cval T 485 [.iface 5 (.sl none [.iface 10 (.sl none (s.map oneC) [])] [])] S = some (.tup [v, .bool true], S) ∧ IsSl 1 v (ofBytes s) ∧ v.free = true ∧ v.frz = v := by
  obtain ⟨v, h1, h2, h3, h4⟩ := text_row hs S
  refine ⟨v, ?_, h2, h3, h4⟩
  refine cval_ok' fn_485 rfl ?_
  have hp1 : partOf false 1 [PV.iface 10 (.sl none (s.map oneC) [])] = some (.iface 10 (.sl none (s.map oneC) [])) := rfl
  simp -implicitDefEqProofs [regex_text, hp1, h1]
  rw [fin_free (Grows.refl S) (by simp [PV.free, PV.freeL, h3])]
  simp [PV.frz, PV.frzL, h4]

theorem literal_pval {s : List UInt8} (h : (quoteL s).length ≤ 64) : pval T 484 [.str (quoteL s)] = some (.tup [.str s, .bool true]) := by
  refine pval_st ?_ rfl rfl
  have hl := quoteL_len s
  obtain ⟨v, h1, h2, h3, h4⟩ := read_val (quoteL s)
  unfold ReadsV at h4
  rw [quote_chk h] at h1 h4
  rw [if_pos rfl] at h4
  obtain ⟨x, d, e1, e2⟩ := h4
  rw [pat_quote] at e1
  cases e1
  have hv := quote_shape e2 h3
  subst hv
  have h1' : pval T 122 [.str (quoteL s)] = some (.tup [.iface 5 (.sl none [.iface 10 (.sl none (s.map oneC) [])] []), .int .i64 0]) := h1
  obtain ⟨v, k1, k2, k3, k4⟩ := text_pat (s := s) (by omega) St0
  have hts := toStr_ofB k2
  have hqp := quote_pval (s := s) (by omega)
  have hqp2 : purV T 483 [.str s] = some (.str (quoteL s)) := (purV_free rfl).trans hqp
  refine cval_ok' fn_484 rfl ?_
  simp -implicitDefEqProofs [regex_Literal, h1', k1, hts, hqp, hqp2]

theorem core_Quoted (s t : List UInt8) (hs : s.length + t.length ≤ 5000000) : cval T 482 [.str s, .str t] St0 = some (.bool true, St0) := by
  have hq := quote_pval (s := s) (by omega)
  refine cval_ok' fn_482 rfl ?_
  simp -implicitDefEqProofs [law07_RegexQuoted, hq, lives_pval]
  refine ok_br (fun _ => ok_ret (by simp)) (fun h => ?_)
  simp only [Bool.or_eq_false_iff, decide_eq_false_iff_not] at h
  obtain ⟨h1, h2⟩ := h
  have hp : (quoteL s).length ≤ 64 := by omega
  have ht : t.length ≤ 64 := by omega
  have hl := quoteL_len s
  have hlit := literal_pval hp
  have hc := quote_chk hp
  have f1 := quote_fits (s := s) (t := s) hp (by omega)
  have f2 := quote_fits (s := s) (t := t) hp ht
  have hst : (s == t) = (t == s) := by rw [Bool.eq_iff_iff]; simp only [beq_iff_eq]; exact eq_comm
  simp -implicitDefEqProofs [hlit, check_pval, hc, fits478, fits_purV, f1, f2, hst, lives_pval]
theorem law_RegexQuoted (xs : denL [.str, .str]) (h : wfL [.str, .str] xs) (hb : bulkL [.str, .str] xs ≤ 1048576) : ∃ S', cval T 482 (pvL [.str, .str] xs) St0 = some (.bool true, S') := by
  obtain ⟨s, t, u⟩ := xs
  have h1 : (s.length + 1) + ((t.length + 1) + 0) ≤ 1048576 := hb
  exact ⟨St0, core_Quoted s t (by omega)⟩
end Ps
