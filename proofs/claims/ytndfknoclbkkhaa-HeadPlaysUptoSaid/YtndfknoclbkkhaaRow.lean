/- A law's row from what the law comes to in the pure semantics. -/
import Derived.Test.YtndfknoclbkkhaaArgs
import Derived.ProofKit
import Derived.OpenShut
import Derived.JoinedCond
namespace Ps
open Go Go.ChangeShapes Go.WideShapes Go.ChangeAt Go.RowKit
def denL : List Ty → Type
 | [] => Unit
 | t :: ts => t.den × denL ts

def pvL : (ts : List Ty) → denL ts → List PV
 | [], _ => []
 | t :: ts, (x, xs) => t.pv x :: pvL ts xs

def wfL : (ts : List Ty) → denL ts → Prop
 | [], _ => True
 | t :: ts, (x, xs) => t.wf x ∧ wfL ts xs

def bulkL : (ts : List Ty) → denL ts → Nat
 | [], _ => 0
 | t :: ts, (x, xs) => t.bulk x + bulkL ts xs

def chkL (P : Program) : List Ty → List TypeId → Bool
 | [], [] => true
 | τ :: τs, t :: ts => chkTy P τ t [] 0 && τ.isTy && τ.low && P.readableRec t && decide (t < P.types.size) && chkL P τs ts
 | _, _ => false

section
variable {X : Tie} {g : Gh} {W W' : World} {H : Type} {enc : TypeId × Value → H} {P : Program}
def offs : List Value → Nat
 | [] => 0
 | .slice (some a) _ _ :: l => a.off + offs l
 | _ :: l => offs l

theorem offs_le {a : Addr} {n c : Nat} : ∀ {l : List Value}, Value.slice (some a) n c ∈ l → a.off ≤ offs l
 | [], h => by simp at h
 | v :: l, h => by
  rcases List.mem_cons.1 h with rfl | h
  ·simp only [offs]; omega
  ·have := offs_le h
   cases v with
   | slice b _ _ => cases b <;> simp only [offs] <;> omega
   | _ => exact this

def offsAll (args : List Value) : Nat := offs (args.flatMap fun v => v.cells.toList)

def pubOf (W : World) (k : Nat) (b : Nat) : Nat := match W.heap[b]? with | some (.cells us _ _) => us.size + k | _ => 0

theorem allPub (W : World) (k : Nat) : AllPub (gh0 (pubOf W k)) W := by
 intro b us t fz h
 simp only [gh0, pubOf, h]
 omega

theorem cell_slice {w : World} {base : Nat} {t : TypeId} {a : Addr} {l c : Nat} (h : Cell.okWide P w .any base t (.slice (some a) l c)) : a.spot = none ∧ ∃ us t f, w.heap[a.block]? = some (.cells us t f) := by
 unfold Cell.okWide at h
 split at h <;> try (rename_i h2; cases h2; done)
 unfold Cell.ok at h
 split at h <;> try (rename_i h2; cases h2; done)
 ·rename_i h1 h2
  cases h2
  obtain ⟨_, _, _, hs, row, cells, hsh, _⟩ := h
  refine ⟨hs, ?_⟩
  unfold World.shape? at hsh
  split at hsh
  ·rename_i us t f he; exact ⟨us, t, f, he⟩
  ·cases hsh
 ·cases h

theorem ok_slices {base : Nat} {t : TypeId} {v : Value} (h : Value.okWide P W .any base t v) {a : Addr} {l c : Nat} (hm : Value.slice (some a) l c ∈ v.cells.toList) :
  a.spot = none ∧ ∃ us t f, W.heap[a.block]? = some (.cells us t f) := by
 have agg : ∀ cs, v = .agg cs → Row.okWide P W .any base t cs → a.spot = none ∧ ∃ us t f, W.heap[a.block]? = some (.cells us t f) := by
  rintro cs rfl ⟨ts, _, _, hr⟩
  obtain ⟨i, hi⟩ := List.getElem?_of_mem hm
  obtain ⟨u, _, hu⟩ := hr i _ (by simpa [Value.cells] using hi)
  exact cell_slice hu
 unfold Value.okWide at h
 split at h
 ·obtain ⟨cs, h1, _, h3⟩ := h; exact agg cs h1 h3
 ·obtain ⟨cs, h1, _, h3⟩ := h; exact agg cs h1 h3
 ·rename_i n1 n2
  cases v <;> simp only [Value.cells] at hm <;> try (simp at hm; done)
  ·rename_i b l2 c2
   have : Value.slice (some a) l c = Value.slice b l2 c2 := by simpa using hm
   cases this
   exact cell_slice h
  ·exfalso
   unfold Cell.okWide at h
   split at h <;> rename_i hq <;> try (cases hq; done)
   unfold Cell.ok at h
   split at h <;> rename_i hq <;> first | (cases hq; done) | exact h
 
theorem okWide_not_agg {base : Nat} {t : TypeId} {v : Value} (h : Value.okWide P W .any base t v) (hs : ∀ fs, P.underlying t ≠ some (.struct fs)) (ha : ∀ n e, P.underlying t ≠ some (.array n e)) : v.cells = #[v] := by
 unfold Value.okWide at h
 split at h
 ·rename_i fs hf; exact absurd hf (hs fs)
 ·rename_i n e hf; exact absurd hf (ha n e)
 ·cases v <;> try rfl
  exfalso
  unfold Cell.okWide at h
  split at h <;> rename_i hq <;> try (cases hq; done)
  unfold Cell.ok at h
  split at h <;> rename_i hq <;> first | (cases hq; done) | exact h

theorem arg_open {τ : Ty} {t : TypeId} {base : Nat} {v : Value} {d : DataW H} {ps : List MemPlace} {p : Nat → Nat} (hc : chkTy P τ t [] 0 = true) (hty : τ.isTy = true) (hlow : τ.low = true)
  (hg : AllPub (gh0 p) W) (hv : Value.okWide P W .any base t v) (hoff : ∀ a l c, Value.slice (some a) l c ∈ v.cells.toList → (∃ us t f, W.heap[a.block]? = some (.cells us t f)) → a.off ≤ p a.block)
  (h : DataW.Trod enc P W 0 (fun _ => true) true t v d ps) : ∃ x : τ.den, τ.wf x ∧ τ.bulk x = bulkD d ∧ VR X (gh0 p) W (τ.pv x) v := by
 obtain ⟨fuel, hf⟩ := h
 have hsp : NoSpot (gh0 p) v.cells.toList := fun a l c hm => by
  obtain ⟨h1, h2⟩ := ok_slices hv hm
  exact ⟨h1, hoff a l c hm h2⟩
 obtain ⟨x, h1, h2, h3⟩ := (trod_emb (X := X) (enc := enc) (P := P) hg τ hlow).1 hty t fuel _ d ps hc hf
 refine ⟨x, h1, h3, ?_⟩
 have single : (∀ fs, P.underlying t ≠ some (.struct fs)) → (∀ n e, P.underlying t ≠ some (.array n e)) → (∃ c, τ.emb x = [c] ∧ τ.pv x = c) → VR X (gh0 p) W (τ.pv x) v := by
  rintro k1 k2 ⟨c, e1, e2⟩
  rw [okWide_not_agg hv k1 k2, e1] at h2
  rw [e2]
  exact h2.2 0 c v rfl rfl
 cases τ with
 | bool =>
  unfold chkTy isBoolT at hc
  split at hc
  ·rename_i ht; exact single (fun fs e => by rw [ht] at e; cases e) (fun n e' e => by rw [ht] at e; cases e) ⟨_, rfl, rfl⟩
  ·cases hc
 | int k =>
  unfold chkTy isIntT at hc
  split at hc
  ·rename_i ht; exact single (fun fs e => by rw [ht] at e; cases e) (fun n e' e => by rw [ht] at e; cases e) ⟨_, rfl, rfl⟩
  ·cases hc
 | str =>
  unfold chkTy isStrT at hc
  split at hc
  ·rename_i ht; exact single (fun fs e => by rw [ht] at e; cases e) (fun n e' e => by rw [ht] at e; cases e) ⟨_, rfl, rfl⟩
  ·cases hc
 | sl e =>
  unfold chkTy at hc
  split at hc
  ·rename_i ht
   refine single (fun fs e => by rw [ht] at e; cases e) (fun n e' e => by rw [ht] at e; cases e) ?_
   cases x with
   | none => exact ⟨_, rfl, rfl⟩
   | some q => obtain ⟨a, b⟩ := q; exact ⟨_, rfl, rfl⟩
  ·cases hc
 | st b =>
  unfold chkTy at hc
  split at hc
  ·rename_i fs ht
   unfold Value.okWide at hv
   rw [ht] at hv
   obtain ⟨cs, rfl, _, _⟩ := hv
   refine .agg _ cs ?_ (fun j c u e1 e2 => h2.2 j c u e1 (by simpa [Value.cells] using e2))
   have := h2.1
   simpa [Value.cells] using this
  ·cases hc
 | unit => cases hty
 | pair a b => cases hty

theorem args_open {p : Nat → Nat} {base : Nat} (hg : AllPub (gh0 p) W) : ∀ (τs : List Ty) (ts : List TypeId) (vs : List Value) (ds : List (DataW H)) (ps : List MemPlace), chkL P τs ts = true →
  (∀ (j : Nat) t v, ts[j]? = some t → vs[j]? = some v → Value.okWide P W .any base t v) →
  (∀ v ∈ vs, ∀ a l c, Value.slice (some a) l c ∈ v.cells.toList → (∃ us t f, W.heap[a.block]? = some (.cells us t f)) → a.off ≤ p a.block) →
  DataW.TrodAll enc P W 0 (fun _ => true) true ts vs ds ps → ∃ xs : denL τs, wfL τs xs ∧ bulkL τs xs = bulkDs ds ∧ VRs X (gh0 p) W (pvL τs xs) vs
 | [], [], vs, ds, ps, _, _, _, h => by
  match vs, ds, h with
  | [], [], _ => exact ⟨(), trivial, rfl, rfl, fun j c u h1 _ => by simp [pvL] at h1⟩
 | [], _ :: _, _, _, _, h, _, _, _ => by simp [chkL] at h
 | _ :: _, [], _, _, _, h, _, _, _ => by simp [chkL] at h
 | τ :: τs, t :: ts, vs, ds, ps, hc, hv, ho, h => by
  simp only [chkL, Bool.and_eq_true, decide_eq_true_eq] at hc
  obtain ⟨⟨⟨⟨⟨c1, c2⟩, c3⟩, c4⟩, c5⟩, c6⟩ := hc
  match vs, ds, h with
  | v :: vs, d :: ds, ⟨p1, p2, h1, h2, _⟩ =>
   obtain ⟨x, x1, x2, x3⟩ := arg_open (X := X) c1 c2 c3 hg (hv 0 t v rfl rfl) (ho v (by simp)) h1
   obtain ⟨xs, y1, y2, y3⟩ := args_open hg τs ts vs ds p2 c6 (fun j t v e1 e2 => hv (j + 1) t v (by simpa using e1) (by simpa using e2)) (fun v hm => ho v (by simp [hm])) h2
   refine ⟨(x, xs), ⟨x1, y1⟩, ?_, ?_⟩
   ·show τ.bulk x + bulkL τs xs = bulkD d + bulkDs ds
    rw [x2, y2]
   ·exact vrs_append (cs := [τ.pv x]) (us := [v]) (vrs_one x3) y3

theorem trodAll_stays (hl : laidOutB P = true) (hk : Kept W W') {sp' : Nat → Bool} : ∀ {τs : List Ty} {ts : List TypeId} {vs : List Value} {ds : List (DataW H)} {ps : List MemPlace}, chkL P τs ts = true →
  DataW.TrodAll enc P W 0 (fun _ => true) true ts vs ds ps → (∀ p ∈ ps, p.block < W.heap.size) → (∀ p ∈ ps, sp' p.block = true) → DataW.TrodAll enc P W' 0 sp' true ts vs ds ps
 | [], [], vs, ds, ps, _, h, _, _ => by
  match vs, ds, h with
  | [], [], h => exact h
 | [], _ :: _, _, _, _, h, _, _, _ => by simp [chkL] at h
 | _ :: _, [], _, _, _, h, _, _, _ => by simp [chkL] at h
 | τ :: τs, t :: ts, vs, ds, ps, hc, h, hlt, hs => by
  simp only [chkL, Bool.and_eq_true, decide_eq_true_eq] at hc
  obtain ⟨⟨⟨⟨⟨c1, c2⟩, c3⟩, c4⟩, c5⟩, c6⟩ := hc
  match vs, ds, h with
  | v :: vs, d :: ds, ⟨p1, p2, h1, h2, e⟩ =>
   subst e
   refine ⟨p1, p2, WideElems.Trod_stays hl c4 c5 h1 (fun x hx => ?_) (fun x hx => hs x (by simp [hx])), trodAll_stays hl hk c6 h2 (fun x hx => hlt x (by simp [hx])) (fun x hx => hs x (by simp [hx])), rfl⟩
   have hb := hlt x (by simp [hx])
   cases x with
   | cell b o => exact World.cell?_of_block (w := W) (hk.2.2.2 b hb)
   | map b => exact hk.2.2.2 b hb

theorem trodAll_len : ∀ {ts : List TypeId} {vs : List Value} {ds : List (DataW H)} {ps : List MemPlace} {b : Nat} {sp : Nat → Bool} {hd : Bool}, DataW.TrodAll enc P W b sp hd ts vs ds ps → vs.length = ts.length ∧ ds.length = ts.length
 | [], [], [], _, _, _, _, _ => ⟨rfl, rfl⟩
 | _ :: _, _ :: _, _ :: _, _, _, _, _, ⟨_, _, _, h, _⟩ => by
  obtain ⟨a, b⟩ := trodAll_len h
  exact ⟨by simp [a], by simp [b]⟩

theorem contract {X : Tie} (hX : TieOk X) {gid : Nat} {fn : Func} (hfn : X.P.funcs[X.fnOf gid]? = some fn) (hname : fn.name ≠ "runtime.NumGoroutine") (hbody : fn.body.isSome = true) {s : ChangeSpec} (hvars : s.vars = [])
  (τs : List Ty) (hchk : chkL X.P τs fn.params.toList = true) (hspec : ∀ (H : Type) (ds : List (DataW H)), ds.length = fn.params.size → s.fn H ds = { results := [.lit (.bool true)], args := ds })
  {tb : TypeId} (hres : fn.resultTypes = #[tb]) (htb : X.P.underlying tb = some .bool) (hl : laidOutB X.P = true) {N : Nat} (hlaw : ∀ xs : denL τs, wfL τs xs → bulkL τs xs ≤ N → ∃ S', cval X.T gid (pvL τs xs) St0 = some (.bool true, S'))
  {W : World} {base : Nat} {args : Array Value} {ds gs : List (DataW H)} {before : List MemPlace} (hN : bulkDs ds ≤ N)
  (hval : ∀ (j : Nat) t v, fn.params[j]? = some t → args[j]? = some v → Value.okWide X.P W .any base t v)
  (hW : DataW.Whole enc X.P fn.params.toList s.vars false W args.toList ds gs before) :
  Calls X.P (X.fnOf gid) args W fun e W' => ∃ v, e = .returned v ∧ s.post enc X.P fn false true false false W args v W' := by
 have hW' := hW
 have hlt := hW.lt
 obtain ⟨p, q, hA, hV, rfl, hfz, hnd⟩ := hW
 rw [hvars] at hV
 obtain ⟨rfl, rfl⟩ := trodVars_none hV
 obtain ⟨l1, l2⟩ := trodAll_len hA
 let k := offsAll args.toList
 have hoff : ∀ v ∈ args.toList, ∀ a l c, Value.slice (some a) l c ∈ v.cells.toList → (∃ us t f, W.heap[a.block]? = some (.cells us t f)) → a.off ≤ pubOf W k a.block := by
  intro v hv a l c hm ⟨us, t, f, he⟩
  have : a.off ≤ k := offs_le (List.mem_flatMap.2 ⟨v, hv, hm⟩)
  simp only [pubOf, he]
  omega
 obtain ⟨xs, x1, x2, x3⟩ := args_open (X := X) (enc := enc) (allPub W k) τs fn.params.toList args.toList ds p hchk (fun j t v e1 e2 => hval j t v (by simpa using e1) (by simpa using e2)) hoff hA
 obtain ⟨S', hc⟩ := hlaw xs x1 (by rw [x2]; exact hN)
 have hVRL : VRL X (gh0 (pubOf W k)) W (pvL τs xs) args := ⟨by simpa using x3.1, fun j c u e1 e2 => x3.2 j c u e1 (by simpa using e2)⟩
 refine (calls_true hX hfn hname hbody hc (p := pubOf W k) (fun b hb => ?_) hVRL).mono fun e W' ⟨he, hk⟩ => ?_
 ·have : W.heap[b]? = none := by simpa using hb
  simp [pubOf, this]
 subst he
 have hds : s.fn H (ds ++ []) = { results := [.lit (.bool true)], args := ds } := by
  rw [List.append_nil]
  exact hspec H ds (by rw [l2]; simp)
 refine ⟨_, rfl, post_of_kept (pa := p) (pv := []) hW' (fun _ _ _ => ?_) (fun sp hsp => ?_) (fun _ _ => ?_) rfl hk (ok_one hres rfl (okWide_bool_mk htb _))⟩
 ·rw [hds, hres]
  exact trodAll_cons_mk (shut_bool htb _) trodAll_mk0
 ·rw [hds]
  exact trodAll_stays hl hk hchk hA (fun x hx => hlt x (by simp [hx])) (fun x hx => hsp x (by simp [hx]))
 ·rw [hds, hvars]
  rfl
end
end Ps
