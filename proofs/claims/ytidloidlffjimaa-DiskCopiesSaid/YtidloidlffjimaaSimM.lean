/- Operations whose order is left open: every order that the text lets gives what the order of the text gives. -/
import Derived.Test.YtidloidlffjimaaSimL
import Derived.Orders
namespace Ps
set_option linter.unusedVariables false
set_option linter.unusedSimpArgs false
open Go
def Opd.reads : Opd → List Nat
 | .tmp t => [t]
 | .cst _ => []
def readsO : Option Opd → List Nat
 | some x => x.reads
 | none => []

def POp.reads : POp → List Nat
 | .mov x | .nilck x | .eqn _ _ x | .un _ x | .toInt _ x | .strId x | .toStr x | .field _ _ _ x | .mkif _ x | .extract _ x | .assert _ _ _ x | .faddr _ x | .len _ x
 | .load _ _ _ x | .box _ x | .toBytes _ x | .mks _ _ x | .toStrO x | .emp3 x | .gclr _ _ x => x.reads
 | .pick c a b => c.reads ++ a.reads ++ b.reads
 | .arith _ x y | .eqb _ x y | .eqa _ _ _ x y | .eqs _ _ x y | .idxs x y | .idxa _ _ _ x y | .iaddr _ x y | .iaddra _ _ x y | .mnmx _ x y | .store _ x y | .app _ _ x y | .gapp _ _ x y => x.reads ++ y.reads
 | .build _ ps => ps.flatMap fun p => p.2.2.reads
 | .mkfn _ cs => cs.flatMap Opd.reads
 | .slcs lo hi x | .slc _ lo hi x | .slca _ _ lo hi x => readsO lo ++ readsO hi ++ x.reads
 | .alloc .. => []
 | .stb l _ x y => l ++ (x.reads ++ y.reads)
 | .emp0 => []
 | .bsl _ _ _ ps => ps.flatMap fun p => p.2.reads
 | .call _ _ xs => xs.flatMap Opd.reads
 | .loadb b _ _ x => b :: x.reads
 | .mkm => []
 | .mlk _ _ _ x k => x.reads ++ k.reads
 | .mset _ x k v => x.reads ++ (k.reads ++ v.reads)
 | .mdel _ x k => x.reads ++ k.reads
 | .plk _ _ x k => x.reads ++ k.reads
 | .wc l x xs => l ++ (x.reads ++ xs.flatMap Opd.reads)
 | .pan x => x.reads
 | .rcv => []
 | .pset x k v => x.reads ++ (k.reads ++ v.reads)
 | .mlen x => x.reads
 | .slc3 _ lo hi mx x => readsO lo ++ (hi.reads ++ (mx.reads ++ x.reads))
 | .mkbfn _ cs => cs.flatMap Opd.reads
 | .callb b _ xs => b :: xs.flatMap Opd.reads
 | .callv _ x xs | .inv _ _ x xs => x.reads ++ xs.flatMap Opd.reads
 | .bad => []

def POper.reads (p : POper) : List Nat := p.op.reads ++ (match p.guard with | some (t, _) => [t] | none => [])

theorem ev_congr {fr fr' : Fr} {x : Opd} (h : ∀ t ∈ x.reads, fr t = fr' t) : ev fr x = ev fr' x := by
 cases x with
 | tmp t => exact h t (by simp [Opd.reads])
 | cst v => rfl

theorem evO_congr {fr fr' : Fr} {x : Option Opd} (h : ∀ t ∈ readsO x, fr t = fr' t) : evO fr x = evO fr' x := by
 cases x with
 | none => rfl
 | some x => simp only [evO]; rw [ev_congr h]

theorem evs_congr {fr fr' : Fr} {xs : List Opd} (h : ∀ t ∈ xs.flatMap Opd.reads, fr t = fr' t) : xs.map (ev fr) = xs.map (ev fr') :=
 List.map_congr_left fun x hx => ev_congr fun t ht => h t (List.mem_flatMap.2 ⟨x, hx, ht⟩)

theorem fillParts_congr {fr fr' : Fr} : ∀ (ps : List (Nat × Nat × Opd)) (cs : List PV), (∀ t ∈ ps.flatMap (fun p => p.2.2.reads), fr t = fr' t) → fillParts fr ps cs = fillParts fr' ps cs
 | [], _, _ => rfl
 | (off, n, x) :: ps, cs, h => by
  simp only [fillParts]
  rw [ev_congr (fr := fr) (fr' := fr') (fun t ht => h t (by simp [ht]))]
  rw [fillParts_congr ps _ (fun t ht => h t (by simp only [List.flatMap_cons, List.mem_append]; exact .inr ht))]

theorem setParts_congr {fr fr' : Fr} (sz : Nat) : ∀ (ps : List (Nat × Opd)) (cs : List PV), (∀ t ∈ ps.flatMap (fun p => p.2.reads), fr t = fr' t) → setParts fr sz ps cs = setParts fr' sz ps cs
 | [], _, _ => rfl
 | (i, x) :: ps, cs, h => by
  simp only [setParts]
  rw [ev_congr (fr := fr) (fr' := fr') (fun t ht => h t (by simp [ht]))]
  rw [setParts_congr sz ps _ (fun t ht => h t (by simp only [List.flatMap_cons, List.mem_append]; exact .inr ht))]

theorem notAt_congr {fr fr' : Fr} {l : List Nat} {id : Nat} (h : ∀ t ∈ l, fr t = fr' t) : notAt fr l id = notAt fr' l id := by
 unfold notAt
 rw [Bool.eq_iff_iff, List.all_eq_true, List.all_eq_true]
 exact ⟨fun q t ht => by rw [← h t ht]; exact q t ht, fun q t ht => by rw [h t ht]; exact q t ht⟩

theorem pstep_congr {T : Tbl} {call : CallP} {fr fr' : Fr} {S : St} {op : POp} (h : ∀ t ∈ op.reads, fr t = fr' t) : pstep T call fr S op = pstep T call fr' S op := by
  cases op
  case load ag n mix x =>
    have e := ev_congr (fr := fr) (fr' := fr') (x := x) h
    cases mix <;> simp only [pstep, peval, e]
  case mkm => rfl
  case emp0 => rfl
  case mkbfn f cs => simp only [pstep, peval]; rw [evs_congr h]
  case mlk ks ok z x k =>
    simp only [POp.reads, List.mem_append] at h
    have e1 := ev_congr (fr := fr) (fr' := fr') (x := x) (fun t ht => h t (.inl ht))
    have e2 := ev_congr (fr := fr) (fr' := fr') (x := k) (fun t ht => h t (.inr ht))
    simp only [pstep, e1, e2]
  case mset ks x k v =>
    simp only [POp.reads, List.mem_append] at h
    have e1 := ev_congr (fr := fr) (fr' := fr') (x := x) (fun t ht => h t (.inl ht))
    have e2 := ev_congr (fr := fr) (fr' := fr') (x := k) (fun t ht => h t (.inr (.inl ht)))
    have e3 := ev_congr (fr := fr) (fr' := fr') (x := v) (fun t ht => h t (.inr (.inr ht)))
    simp only [pstep, e1, e2, e3]
  case wc l x xs => rfl
  case pan x => rfl
  case rcv => rfl
  case plk ok z x k =>
    simp only [POp.reads, List.mem_append] at h
    have e1 := ev_congr (fr := fr) (fr' := fr') (x := x) (fun t ht => h t (.inl ht))
    have e2 := ev_congr (fr := fr) (fr' := fr') (x := k) (fun t ht => h t (.inr ht))
    simp only [pstep, e1, e2]
  case pset x k v =>
    simp only [POp.reads, List.mem_append] at h
    have e1 := ev_congr (fr := fr) (fr' := fr') (x := x) (fun t ht => h t (.inl ht))
    have e2 := ev_congr (fr := fr) (fr' := fr') (x := k) (fun t ht => h t (.inr (.inl ht)))
    have e3 := ev_congr (fr := fr) (fr' := fr') (x := v) (fun t ht => h t (.inr (.inr ht)))
    simp only [pstep, e1, e2, e3]
  case mdel ks x k =>
    simp only [POp.reads, List.mem_append] at h
    have e1 := ev_congr (fr := fr) (fr' := fr') (x := x) (fun t ht => h t (.inl ht))
    have e2 := ev_congr (fr := fr) (fr' := fr') (x := k) (fun t ht => h t (.inr ht))
    simp only [pstep, e1, e2]
  case mlen x =>
    have e1 := ev_congr (fr := fr) (fr' := fr') (x := x) h
    simp only [pstep, e1]
  case slc3 sz lo hi mx x =>
    simp only [POp.reads, List.mem_append] at h
    have e1 := evO_congr (fr := fr) (fr' := fr') (x := lo) (fun t ht => h t (.inl ht))
    have e2 := ev_congr (fr := fr) (fr' := fr') (x := hi) (fun t ht => h t (.inr (.inl ht)))
    have e3 := ev_congr (fr := fr) (fr' := fr') (x := mx) (fun t ht => h t (.inr (.inr (.inl ht))))
    have e4 := ev_congr (fr := fr) (fr' := fr') (x := x) (fun t ht => h t (.inr (.inr (.inr ht))))
    simp only [pstep, e1, e2, e3, e4]
  case loadb b ag n x =>
    have e0 : fr b = fr' b := h b (by simp [POp.reads])
    have e := ev_congr (fr := fr) (fr' := fr') (x := x) (fun t ht => h t (by simp [POp.reads, ht]))
    simp only [pstep, e0, e]
  case callb b f xs =>
    have e0 : fr b = fr' b := h b (by simp [POp.reads])
    have e := evs_congr (fr := fr) (fr' := fr') (xs := xs) (fun t ht => h t (by simp only [POp.reads, List.mem_cons]; exact .inr ht))
    simp only [pstep, e0, e]
  case stb l m x y =>
    simp only [POp.reads, List.mem_append] at h
    have e1 := ev_congr (fr := fr) (fr' := fr') (x := x) (fun t ht => h t (.inr (.inl ht)))
    have e2 := ev_congr (fr := fr) (fr' := fr') (x := y) (fun t ht => h t (.inr (.inr ht)))
    simp only [pstep, e1, e2, fun id => notAt_congr (fr := fr) (fr' := fr') (l := l) (id := id) (fun t ht => h t (.inl ht))]
  case build z ps => simp only [pstep, peval]; rw [fillParts_congr ps z h]
  case bsl ro ze len ps => simp only [pstep, elems]; rw [setParts_congr _ ps _ h]
  case alloc => rfl
  case bad => rfl
  case pick c x y =>
    simp only [POp.reads, List.mem_append] at h
    have e1 := ev_congr (fr := fr) (fr' := fr') (x := c) (fun t ht => h t (.inl (.inl ht)))
    have e2 := ev_congr (fr := fr) (fr' := fr') (x := x) (fun t ht => h t (.inl (.inr ht)))
    have e3 := ev_congr (fr := fr) (fr' := fr') (x := y) (fun t ht => h t (.inr ht))
    simp only [pstep, peval, e1, e2, e3]
  case mkfn f cs => simp only [pstep, peval]; rw [evs_congr h]
  case call _ f xs => simp only [pstep]; rw [evs_congr h]
  case callv _ x xs =>
    simp only [POp.reads, List.mem_append] at h
    have e1 := ev_congr (fr := fr) (fr' := fr') (x := x) (fun t ht => h t (.inl ht))
    have e2 := evs_congr (fr := fr) (fr' := fr') (xs := xs) (fun t ht => h t (.inr ht))
    simp only [pstep, e1, e2]
  case inv _ m x xs =>
    simp only [POp.reads, List.mem_append] at h
    have e1 := ev_congr (fr := fr) (fr' := fr') (x := x) (fun t ht => h t (.inl ht))
    have e2 := evs_congr (fr := fr) (fr' := fr') (xs := xs) (fun t ht => h t (.inr ht))
    simp only [pstep, e1, e2]
  case slcs lo hi x =>
    simp only [POp.reads, List.mem_append] at h
    have e1 := evO_congr (fr := fr) (fr' := fr') (x := lo) (fun t ht => h t (.inl (.inl ht)))
    have e2 := evO_congr (fr := fr) (fr' := fr') (x := hi) (fun t ht => h t (.inl (.inr ht)))
    have e3 := ev_congr (fr := fr) (fr' := fr') (x := x) (fun t ht => h t (.inr ht))
    simp only [pstep, peval, e1, e2, e3]
  case slc sz lo hi x =>
    simp only [POp.reads, List.mem_append] at h
    have e1 := evO_congr (fr := fr) (fr' := fr') (x := lo) (fun t ht => h t (.inl (.inl ht)))
    have e2 := evO_congr (fr := fr) (fr' := fr') (x := hi) (fun t ht => h t (.inl (.inr ht)))
    have e3 := ev_congr (fr := fr) (fr' := fr') (x := x) (fun t ht => h t (.inr ht))
    simp only [pstep, peval, e1, e2, e3]
  case slca len sz lo hi x =>
    simp only [POp.reads, List.mem_append] at h
    have e1 := evO_congr (fr := fr) (fr' := fr') (x := lo) (fun t ht => h t (.inl (.inl ht)))
    have e2 := evO_congr (fr := fr) (fr' := fr') (x := hi) (fun t ht => h t (.inl (.inr ht)))
    have e3 := ev_congr (fr := fr) (fr' := fr') (x := x) (fun t ht => h t (.inr ht))
    simp only [pstep, peval, e1, e2, e3]
  case len st x =>
    have e := ev_congr (fr := fr) (fr' := fr') (x := x) h
    cases st <;> simp only [pstep, peval, e]
  all_goals first
    | (rename_i x
       have e := ev_congr (fr := fr) (fr' := fr') (x := x) h
       simp only [pstep, peval, e]; done)
    | (rename_i x y
       simp only [POp.reads, List.mem_append] at h
       have e1 := ev_congr (fr := fr) (fr' := fr') (x := x) (fun t ht => h t (.inl ht))
       have e2 := ev_congr (fr := fr) (fr' := fr') (x := y) (fun t ht => h t (.inr ht))
       simp only [pstep, peval, e1, e2]; done)

theorem pstep_pure {T : Tbl} {call : CallP} {fr : Fr} {op : POp} (h : pure1 op = true) : ∃ q, ∀ S, pstep T call fr S op = withSt S q := by
 cases op <;> simp only [pure1, pure0] at h <;> try (cases h; done)
 case load ag n mix x => subst h; exact ⟨_, fun S => by simp only [pstep]; rfl⟩
 case box ro x =>
  subst h
  refine ⟨if (ev fr x).cells.all PV.one then some (.ref (ev fr x).cells) else none, fun S => ?_⟩
  simp only [pstep, if_true]
  split <;> rfl
 case alloc ro z =>
  subst h
  refine ⟨if z.all PV.one then some (.ref z) else none, fun S => ?_⟩
  simp only [pstep, if_true]
  split <;> rfl
 case bsl ro ze len ps =>
  subst h
  refine ⟨match elems fr ze len ps with | some es => some (.sl none es []) | none => none, fun S => ?_⟩
  simp only [pstep, if_true]
  cases he : elems fr ze len ps <;> rfl
 case emp0 => exact ⟨some .emp, fun S => rfl⟩
 case toBytes ro x =>
  subst h
  refine ⟨match ev fr x with | .str s => some (.sl none (ofBytes s) []) | _ => none, fun S => ?_⟩
  simp only [pstep, if_true]
  cases he : ev fr x <;> rfl
 case call m f xs =>
  simp only [beq_iff_eq] at h
  subst h
  exact ⟨purCall call f (xs.map (ev fr)), fun S => rfl⟩
 case callv m x xs =>
  simp only [beq_iff_eq] at h
  subst h
  refine ⟨match ev fr x with | .fn f caps => purCall call f (xs.map (ev fr) ++ caps) | .bfn f first => purCall call f (first ++ xs.map (ev fr)) | _ => none, fun S => ?_⟩
  simp only [pstep]
  cases he : ev fr x <;> rfl
 case inv cm m x xs =>
  simp only [beq_iff_eq] at h
  subst h
  refine ⟨match ev fr x with | .iface t v => (match T.meth t m with | some f => purCall call f (v :: xs.map (ev fr)) | none => none) | _ => none, fun S => ?_⟩
  simp only [pstep]
  cases he : ev fr x <;> try rfl
  rename_i t v
  simp only
  cases hm : T.meth t m <;> rfl
 all_goals exact ⟨_, fun S => by simp only [pstep]; rfl⟩

def isLoad : POp → Bool
 | .load _ _ false _ => true
 | .loadb .. => true
 | .mlk .. => true
 | .mlen _ => true
 | .toStrO _ => true
 | _ => false
def keeps : POp → Bool
 | .call m _ _ | .callv m _ _ | .inv m _ _ _ => m == .keep
 | .box .. | .alloc .. | .bsl .. | .app .. | .toBytes .. | .mks .. | .mkm | .slc3 .. => true
 | _ => false

def isB : POp → POp → Bool
 | .loadb b _ _ _, .callb c _ _ => b == c
 | .loadb b _ _ _, .stb l _ _ _ => l.contains b
 | _, _ => false
def isB2 : POp → POp → Bool
 | .callb c _ _, .loadb b _ _ _ => b == c
 | _, _ => false

def indep (p q : POper) : Bool :=
 (match p.dst with | some d => !q.reads.contains d && q.dst != some d | none => true) &&
 (match q.dst with | some d => !p.reads.contains d | none => true) &&
 (pure1 p.op || pure1 q.op || (isLoad p.op && (isLoad q.op || keeps q.op)) || isB p.op q.op || isB2 p.op q.op)

theorem upd_comm {fr : Fr} {d e : Option Nat} {u v : PV} (h : ∀ t, d = some t → e ≠ some t) : updO (updO fr d u) e v = updO (updO fr e v) d u := by
 cases d with
 | none => rfl
 | some d =>
  cases e with
  | none => rfl
  | some e =>
   have hne : d ≠ e := fun he => h d rfl (he ▸ rfl)
   funext t
   simp only [updO, upd_ite]
   by_cases h1 : t = e
   ·subst h1
    simp [Ne.symm hne]
   ·simp [h1]

theorem upd_at {fr : Fr} {d : Option Nat} {u : PV} {t : Nat} (h : d ≠ some t) : updO fr d u t = fr t := by
 cases d with
 | none => rfl
 | some d =>
  simp only [updO, upd_ite]
  rw [if_neg (fun e => h (by rw [e]))]

theorem wanted_congr {fr fr' : Fr} {gd : Option (Nat × Bool)} (h : ∀ t b, gd = some (t, b) → fr t = fr' t) : wantedP fr gd = wantedP fr' gd := by
 cases gd with
 | none => rfl
 | some q => obtain ⟨t, b⟩ := q; simp only [wantedP, h t b rfl]

def pone (T : Tbl) (call : CallP) (p : POper) (fr : Fr) (S : St) : Option (PV × St) :=
 match wantedP fr p.guard with
 | none => none
 | some false => some (.tup [], S)
 | some true => pstep T call fr S p.op

theorem pops_cons {T : Tbl} {call : CallP} {p : POper} {l : List POper} {fr : Fr} {S : St} :
  pops T call (p :: l) fr S = match pone T call p fr S with | some (v, S') => pops T call l (updO fr p.dst v) S' | none => none := by
 simp only [pops, pone]
 cases wantedP fr p.guard with
 | none => rfl
 | some b => cases b <;> rfl

theorem pone_congr {T : Tbl} {call : CallP} {p : POper} {fr fr' : Fr} {S : St} (h : ∀ t ∈ p.reads, fr t = fr' t) : pone T call p fr S = pone T call p fr' S := by
 simp only [pone]
 rw [wanted_congr (fr := fr) (fr' := fr') (fun t b hb => h t (by simp [POper.reads, hb]))]
 rw [pstep_congr (fr := fr) (fr' := fr') (fun t ht => h t (by simp [POper.reads, ht]))]

theorem pone_pure {T : Tbl} {call : CallP} {p : POper} {fr : Fr} {S S1 : St} {v : PV} (hp : pure1 p.op = true) (h : pone T call p fr S = some (v, S1)) : S1 = S ∧ ∀ S2, pone T call p fr S2 = some (v, S2) := by
 simp only [pone] at h ⊢
 split at h
 ·cases h
 ·cases h; exact ⟨rfl, fun _ => rfl⟩
 ·obtain ⟨q, hq⟩ := pstep_pure (T := T) (call := call) (fr := fr) hp
  rw [hq] at h
  obtain ⟨h1, h2⟩ := withSt_some h
  refine ⟨h1, fun S2 => ?_⟩
  rw [hq, h2]
  rfl

mutual
theorem beq_eq : ∀ (a b : PV), PV.beq a b = true → a = b
 | .und, b, h => by cases b <;> first | rfl | (simp [PV.beq] at h)
 | .int k n, b, h => by cases b <;> simp [PV.beq] at h; simp [h]
 | .bool x, b, h => by cases b <;> simp [PV.beq] at h; simp [h]
 | .str s, b, h => by cases b <;> simp [PV.beq] at h; simp [h]
 | .nilp, b, h => by cases b <;> first | rfl | (simp [PV.beq] at h)
 | .nils, b, h => by cases b <;> first | rfl | (simp [PV.beq] at h)
 | .nili, b, h => by cases b <;> first | rfl | (simp [PV.beq] at h)
 | .nilf, b, h => by cases b <;> first | rfl | (simp [PV.beq] at h)
 | .ptr i o, b, h => by cases b <;> simp [PV.beq] at h; simp [h]
 | .ref cs, b, h => by
  cases b <;> simp only [PV.beq] at h <;> try (cases h; done)
  rw [beqL_eq _ _ h]
 | .sl t es sp, b, h => by
  cases b <;> simp only [PV.beq, Bool.and_eq_true, beq_iff_eq] at h <;> try (cases h; done)
  obtain ⟨⟨rfl, h1⟩, h2⟩ := h
  rw [beqL_eq _ _ h1, beqL_eq _ _ h2]
 | .osl i o l s, b, h => by cases b <;> simp [PV.beq] at h; simp [h]
 | .emp, b, h => by cases b <;> first | rfl | (simp [PV.beq] at h)
 | .iface t v, b, h => by
  cases b <;> simp only [PV.beq, Bool.and_eq_true, beq_iff_eq] at h <;> try (cases h; done)
  obtain ⟨rfl, h1⟩ := h
  rw [beq_eq _ _ h1]
 | .agg cs, b, h => by
  cases b <;> simp only [PV.beq] at h <;> try (cases h; done)
  rw [beqL_eq _ _ h]
 | .tup cs, b, h => by
  cases b <;> simp only [PV.beq] at h <;> try (cases h; done)
  rw [beqL_eq _ _ h]
 | .fn f cs, b, h => by
  cases b <;> simp only [PV.beq, Bool.and_eq_true, beq_iff_eq] at h <;> try (cases h; done)
  obtain ⟨rfl, h1⟩ := h
  rw [beqL_eq _ _ h1]
 | .nilm, b, h => by cases b <;> first | rfl | (simp [PV.beq] at h)
 | .map i, b, h => by cases b <;> simp [PV.beq] at h; simp [h]
 | .hnd i, b, h => by cases b <;> simp [PV.beq] at h; simp [h]
 | .bfn f cs, b, h => by
  cases b <;> simp only [PV.beq, Bool.and_eq_true, beq_iff_eq] at h <;> try (cases h; done)
  obtain ⟨rfl, h1⟩ := h
  rw [beqL_eq _ _ h1]
theorem beqL_eq : ∀ (a b : List PV), PV.beqL a b = true → a = b
 | [], b, h => by cases b <;> first | rfl | (simp [PV.beqL] at h)
 | x :: l, b, h => by
  cases b <;> simp only [PV.beqL, Bool.and_eq_true] at h <;> try (cases h; done)
  rw [beq_eq _ _ h.1, beqL_eq _ _ h.2]
end
theorem beqLL_eq : ∀ {a b : List (List PV)}, PV.beqLL a b = true → a = b
 | [], [], _ => rfl
 | a :: l, b :: m, h => by
  simp only [PV.beqLL, Bool.and_eq_true] at h
  rw [beqL_eq _ _ h.1, beqLL_eq h.2]
 | [], _ :: _, h => by simp [PV.beqLL] at h
 | _ :: _, [], h => by simp [PV.beqLL] at h

theorem pstep_load {T : Tbl} {call : CallP} {fr : Fr} {S S1 : St} {v : PV} {op : POp} (hp : isLoad op = true) (h : pstep T call fr S op = some (v, S1)) :
  S1 = S ∧ ∀ S2, S2.objs.take S.objs.length = S.objs → pstep T call fr S2 op = some (v, S2) := by
 cases op
 case load ag n mix x =>
  cases mix
  ·simp only [pstep] at h ⊢
   cases he : ev fr x <;> rw [he] at h <;> simp only at h <;> try (cases h; done)
   case ref cs =>
    cases hq : partOf ag n cs with
    | none => rw [hq] at h; cases h
    | some q => rw [hq] at h; cases h; exact ⟨rfl, fun S2 _ => by simp [hq]⟩
   case ptr id off =>
    cases hc : S.objs[id]? with
    | none => rw [hc] at h; cases h
    | some cs =>
     rw [hc] at h
     simp only at h
     cases hq : partOf ag n (cs.drop off) with
     | none => rw [hq] at h; cases h
     | some q =>
      rw [hq] at h; cases h
      refine ⟨rfl, fun S2 hS2 => ?_⟩
      have hlt : id < S.objs.length := (List.getElem?_eq_some_iff.1 hc).1
      have : S2.objs[id]? = some cs := by rw [← hc, ← hS2, List.getElem?_take_of_lt hlt]
      simp [this, hq]
  ·cases hp
 case mlk ks ok z x k =>
  simp only [pstep] at h ⊢
  split at h
  ·rename_i hk
   simp only [if_pos hk]
   split at h
   ·cases h; exact ⟨rfl, fun S2 _ => rfl⟩
   ·rename_i id e
    split at h
    ·rename_i cs hc
     split at h
     ·rename_i r hr
      cases h
      refine ⟨rfl, fun S2 hS2 => ?_⟩
      have hlt : id < S.objs.length := (List.getElem?_eq_some_iff.1 hc).1
      have : S2.objs[id]? = some cs := by rw [← hc, ← hS2, List.getElem?_take_of_lt hlt]
      simp [this, hr]
     ·cases h
    ·cases h
   ·cases h
  ·cases h
 case mlen x =>
  simp only [pstep] at h ⊢
  split at h
  ·cases h; exact ⟨rfl, fun S2 _ => rfl⟩
  ·rename_i id e
   split at h
   ·rename_i cs hc
    cases h
    refine ⟨rfl, fun S2 hS2 => ?_⟩
    have hlt : id < S.objs.length := (List.getElem?_eq_some_iff.1 hc).1
    have : S2.objs[id]? = some cs := by rw [← hc, ← hS2, List.getElem?_take_of_lt hlt]
    simp [this]
   ·cases h
  ·cases h
 case toStrO x =>
  simp only [pstep] at h ⊢
  split at h
  ·rename_i id off len sz he
   split at h
   ·rename_i cs hc
    split at h
    ·rename_i hq
     split at h
     ·rename_i s hs
      cases h
      refine ⟨rfl, fun S2 hS2 => ?_⟩
      have hlt : id < S.objs.length := (List.getElem?_eq_some_iff.1 hc).1
      have : S2.objs[id]? = some cs := by rw [← hc, ← hS2, List.getElem?_take_of_lt hlt]
      simp [this, hq, hs]
     ·cases h
    ·cases h
   ·cases h
  ·cases h; exact ⟨rfl, fun S2 _ => rfl⟩
  ·cases h; exact ⟨rfl, fun S2 _ => rfl⟩
  ·split at h
   ·rename_i s hs
    cases h
    exact ⟨rfl, fun S2 _ => by simp [hs]⟩
   ·cases h
  ·cases h
 case loadb b ag n x =>
  simp only [pstep] at h ⊢
  split at h
  ·rename_i i o id off hb he
   split at h
   ·rename_i hid
    split at h
    ·rename_i cs hc
     split at h
     ·rename_i v' hq
      cases h
      refine ⟨rfl, fun S2 hS2 => ?_⟩
      have hlt : id < S.objs.length := (List.getElem?_eq_some_iff.1 hc).1
      have : S2.objs[id]? = some cs := by rw [← hc, ← hS2, List.getElem?_take_of_lt hlt]
      simp [hb, he, hid, this, hq]
     ·cases h
    ·cases h
   ·cases h
  ·cases h
 all_goals cases hp

theorem newObj_keeps {S S1 : St} {cs : List PV} {v : PV} (h : newObj S cs = (v, S1)) : S1.objs.take S.objs.length = S.objs := by
 cases h; simp
theorem newArr_keeps {S S1 : St} {sz : Nat} {cs : List PV} {v : PV} (h : newArr S sz cs = (v, S1)) : S1.objs.take S.objs.length = S.objs := by
 cases h; simp
theorem ro_keeps {S S1 : St} {ro : Bool} {q : PV × St} {r v : PV} (hq : ∀ v S1, q = (v, S1) → S1.objs.take S.objs.length = S.objs) (h : (if ro then (r, S) else q) = (v, S1)) : S1.objs.take S.objs.length = S.objs := by
 cases ro
 ·exact hq v S1 (by simpa using h)
 ·simp only [if_true] at h; cases h; simp

theorem aCall_keeps {call : CallP} {f : Nat} {args : List PV} {S S1 : St} {v : PV} (h : aCall call .keep f args S = some (v, S1)) : S1.objs.take S.objs.length = S.objs := by
 simp only [aCall, keepIf] at h
 split at h
 ·cases h
 ·simp only [if_true] at h
  split at h
  ·rename_i hb; cases h; exact beqLL_eq hb
  ·cases h

theorem pstep_keeps {T : Tbl} {call : CallP} {fr : Fr} {S S1 : St} {v : PV} {op : POp} (hp : keeps op = true) (h : pstep T call fr S op = some (v, S1)) : S1.objs.take S.objs.length = S.objs := by
 cases op <;> simp only [keeps] at hp <;> try (cases hp; done)
 case call m f xs =>
  simp only [beq_iff_eq] at hp; subst hp
  simp only [pstep] at h; exact aCall_keeps h
 case callv m x xs =>
  simp only [beq_iff_eq] at hp; subst hp
  simp only [pstep] at h
  split at h
  ·exact aCall_keeps h
  ·exact aCall_keeps h
  ·cases h
 case inv cm m x xs =>
  simp only [beq_iff_eq] at hp; subst hp
  simp only [pstep] at h
  split at h
  ·split at h
   ·exact aCall_keeps h
   ·cases h
  ·cases h
 case mkm => simp only [pstep] at h; cases h; simp
 case slc3 sz lo hi mx x =>
  simp only [pstep] at h
  unfold slc3P at h
  split at h
  ·split at h
   ·cases h; simp
   ·cases h
  ·split at h
   ·split at h
    ·split at h
     ·split at h
      ·split at h
       ·cases h; simp
       ·cases h
      ·cases h
     ·cases h
    ·cases h
   ·cases h
  ·cases h
 case box ro x =>
  simp only [pstep] at h
  split at h
  ·exact ro_keeps (fun _ _ => newObj_keeps) (Option.some.inj h)
  ·cases h
 case alloc ro z =>
  simp only [pstep] at h
  split at h
  ·exact ro_keeps (fun _ _ => newObj_keeps) (Option.some.inj h)
  ·cases h
 case bsl ro ze len ps =>
  simp only [pstep] at h
  split at h
  ·exact ro_keeps (fun _ _ => newArr_keeps) (Option.some.inj h)
  ·cases h
 case toBytes ro x =>
  simp only [pstep] at h
  split at h
  ·exact ro_keeps (fun _ _ => newArr_keeps) (Option.some.inj h)
  ·cases h
 case mks sz bytes c =>
  simp only [pstep] at h
  split at h
  ·split at h
   ·exact newArr_keeps (Option.some.inj h)
   ·cases h
  ·cases h
 case app sz bytes s x =>
  simp only [pstep] at h
  split at h
  ·split at h
   ·unfold appendTo at h
    split at h
    ·split at h
     ·cases h; simp
     ·split at h
      ·exact newArr_keeps (Option.some.inj h)
      ·cases h
    ·split at h
     ·cases h; simp
     ·split at h
      ·split at h
       ·cases h; simp
       ·cases h
      ·cases h
    ·split at h
     ·cases h; simp
     ·split at h
      ·exact newArr_keeps (Option.some.inj h)
      ·cases h
    ·cases h
   ·cases h
  ·cases h

theorem pone_load {T : Tbl} {call : CallP} {p : POper} {fr : Fr} {S S1 : St} {v : PV} (hp : isLoad p.op = true) (h : pone T call p fr S = some (v, S1)) :
  S1 = S ∧ ∀ S2, S2.objs.take S.objs.length = S.objs → pone T call p fr S2 = some (v, S2) := by
 simp only [pone] at h ⊢
 split at h
 ·cases h
 ·cases h; exact ⟨rfl, fun _ _ => rfl⟩
 ·exact pstep_load hp h

theorem pone_keeps {T : Tbl} {call : CallP} {p : POper} {fr : Fr} {S S1 : St} {v : PV} (hp : keeps p.op = true) (h : pone T call p fr S = some (v, S1)) : S1.objs.take S.objs.length = S.objs := by
 simp only [pone] at h
 split at h
 ·cases h
 ·cases h; simp
 ·exact pstep_keeps hp h

theorem pone_b {T : Tbl} {call : CallP} {p q : POper} {fr : Fr} {S S1 S2 : St} {v u : PV} (hb : isB p.op q.op = true) (hp : pone T call p fr S = some (v, S1)) (hq : pone T call q fr S1 = some (u, S2)) :
  S1 = S ∧ pone T call p fr S2 = some (v, S2) := by
 obtain ⟨pd, pop, pg⟩ := p
 obtain ⟨qd, qop, qg⟩ := q
 cases pop <;> simp only [isB] at hb <;> try (cases hb; done)
 cases qop <;> simp only at hb <;> try (cases hb; done)
 ·rename_i b ag n x l m y z
  have hb : b ∈ l := by simpa using hb
  simp only [pone] at hp hq ⊢
  split at hp
  ·cases hp
  ·cases hp; exact ⟨rfl, rfl⟩
  ·simp only [pstep] at hp
   split at hp
   ·rename_i i o id off e0 e1
    split at hp
    ·rename_i hid
     subst hid
     split at hp
     ·rename_i cs hcs
      split at hp
      ·rename_i v' hv
       cases hp
       refine ⟨rfl, ?_⟩
       have hS2 : S2.objs[i]? = some cs := by
        split at hq
        ·cases hq
        ·cases hq; exact hcs
        ·simp only [pstep] at hq
         split at hq
         ·split at hq
          ·split at hq
           ·rename_i id off _ _ _ hcond
            cases hq
            have hne := (List.all_eq_true.1 hcond.1) b hb
            rw [e0] at hne
            simp only [bne_iff_ne, ne_eq] at hne
            rw [List.getElem?_set_ne (Ne.symm hne)]
            exact hcs
           ·cases hq
          ·cases hq
         ·cases hq
       simp [pstep, e0, e1, hS2, hv]
      ·cases hp
     ·cases hp
    ·cases hp
   ·cases hp
 rename_i b ag n x c f xs
 have hb : b = c := by simpa using hb
 subst hb
 simp only [pone] at hp hq ⊢
 split at hp
 ·cases hp
 ·cases hp; exact ⟨rfl, rfl⟩
 ·simp only [pstep] at hp
  split at hp
  ·rename_i i o id off e0 e1
   split at hp
   ·rename_i hid
    subst hid
    split at hp
    ·rename_i cs hcs
     split at hp
     ·rename_i v' hv
      cases hp
      refine ⟨rfl, ?_⟩
      have hS2 : S2.objs[i]? = some cs := by
       split at hq
       ·cases hq
       ·cases hq; exact hcs
       ·simp only [pstep, e0] at hq
        cases hcall : call f (xs.map (ev fr)) S with
        | none => rw [hcall] at hq; cases hq
        | some y =>
         obtain ⟨u', S'⟩ := y
         rw [hcall] at hq
         simp only [keepO, hcs] at hq
         split at hq
         ·rename_i a1 a2 g1 g2
          cases g1
          split at hq
          ·rename_i hbe
           cases hq
           rw [g2, beqL_eq _ _ hbe]
          ·cases hq
         ·cases hq
      simp [pstep, e0, e1, hS2, hv]
     ·cases hp
    ·cases hp
   ·cases hp
  ·cases hp

theorem pone_b2 {T : Tbl} {call : CallP} {p q : POper} {fr : Fr} {S S1 S2 : St} {v u : PV} (hb : isB2 p.op q.op = true) (hp : pone T call p fr S = some (v, S1)) (hq : pone T call q fr S1 = some (u, S2)) :
  pone T call q fr S = some (u, S) ∧ S2 = S1 := by
 obtain ⟨pd, pop, pg⟩ := p
 obtain ⟨qd, qop, qg⟩ := q
 cases pop <;> simp only [isB2] at hb <;> try (cases hb; done)
 cases qop <;> simp only at hb <;> try (cases hb; done)
 rename_i c f xs b ag n x
 have hb : b = c := by simpa using hb
 subst hb
 simp only [pone] at hp hq ⊢
 split at hq
 ·cases hq
 ·cases hq; exact ⟨rfl, rfl⟩
 ·simp only [pstep] at hq
  split at hq
  ·rename_i i o id off e0 e1
   split at hq
   ·rename_i hid
    subst hid
    split at hq
    ·rename_i cs hcs
     split at hq
     ·rename_i v' hv
      cases hq
      refine ⟨?_, rfl⟩
      have hS : S.objs[i]? = some cs := by
       split at hp
       ·cases hp
       ·cases hp; exact hcs
       ·simp only [pstep, e0] at hp
        cases hcall : call f (xs.map (ev fr)) S with
        | none => rw [hcall] at hp; cases hp
        | some y =>
         obtain ⟨u', S'⟩ := y
         rw [hcall] at hp
         simp only [keepO] at hp
         split at hp
         ·rename_i a1 a2 g1 g2
          split at hp
          ·rename_i hbe
           cases hp
           rw [hcs] at g2
           cases g2
           rw [g1, beqL_eq _ _ hbe]
          ·cases hp
         ·cases hp
      simp [pstep, e0, e1, hS, hv]
     ·cases hq
    ·cases hq
   ·cases hq
  ·cases hq

theorem swap {T : Tbl} {call : CallP} {p q : POper} {l : List POper} {fr : Fr} {S : St} {r : Fr × St} (hi : indep p q = true) (h : pops T call (p :: q :: l) fr S = some r) :
  pops T call (q :: p :: l) fr S = some r := by
 simp only [indep, Bool.and_eq_true] at hi
 obtain ⟨⟨h1, h2⟩, h3⟩ := hi
 have hpq : ∀ t ∈ q.reads, p.dst ≠ some t := fun t ht e => by rw [e] at h1; simp [ht] at h1
 have hqp : ∀ t ∈ p.reads, q.dst ≠ some t := fun t ht e => by rw [e] at h2; simp [ht] at h2
 have hdd : ∀ t, p.dst = some t → q.dst ≠ some t := fun t e e' => by rw [e] at h1; simp [e'] at h1
 rw [pops_cons] at h
 cases hp : pone T call p fr S with
 | none => rw [hp] at h; cases h
 | some x =>
  obtain ⟨v1, S1⟩ := x
  rw [hp] at h
  simp only at h
  rw [pops_cons] at h
  have cq : pone T call q (updO fr p.dst v1) S1 = pone T call q fr S1 := pone_congr fun t ht => upd_at (hpq t ht)
  rw [cq] at h
  cases hq : pone T call q fr S1 with
  | none => rw [hq] at h; cases h
  | some y =>
   obtain ⟨v2, S2⟩ := y
   rw [hq] at h
   simp only at h
   have goal : ∃ S3, pone T call q fr S = some (v2, S3) ∧ pone T call p fr S3 = some (v1, S2) := by
    simp only [Bool.or_eq_true, Bool.and_eq_true] at h3
    rcases h3 with (((h3 | h3) | ⟨h3, h4⟩) | h3) | h3
    ·obtain ⟨e, k⟩ := pone_pure h3 hp
     subst e
     exact ⟨S2, hq, k S2⟩
    ·obtain ⟨e, k⟩ := pone_pure h3 hq
     subst e
     exact ⟨S, k S, hp⟩
    ·obtain ⟨e, k⟩ := pone_load h3 hp
     subst e
     refine ⟨S2, hq, k S2 ?_⟩
     rcases h4 with h4 | h4
     ·obtain ⟨e', _⟩ := pone_load h4 hq
      rw [e']; simp
     ·exact pone_keeps h4 hq
    ·obtain ⟨e, k⟩ := pone_b h3 hp hq
     subst e
     exact ⟨S2, hq, k⟩
    ·obtain ⟨k, e⟩ := pone_b2 h3 hp hq
     subst e
     exact ⟨S, k, hp⟩
   obtain ⟨S3, g1, g2⟩ := goal
   rw [pops_cons, g1]
   simp only
   rw [pops_cons]
   have cp : pone T call p (updO fr q.dst v2) S3 = pone T call p fr S3 := pone_congr fun t ht => upd_at (hqp t ht)
   rw [cp, g2]
   simp only
   rw [← upd_comm hdd]
   exact h

theorem swap_front {T : Tbl} {call : CallP} {q : POper} {l : List POper} {r : Fr × St} : ∀ {pre : List POper} {fr : Fr} {S : St}, (∀ p ∈ pre, indep p q = true) → pops T call (pre ++ q :: l) fr S = some r →
  pops T call (q :: pre ++ l) fr S = some r
 | [], _, _, _, h => h
 | p :: pre, fr, S, hi, h => by
  have : pops T call (p :: (q :: pre ++ l)) fr S = some r := by
   rw [List.cons_append, pops_cons] at h
   rw [pops_cons]
   cases hp : pone T call p fr S with
   | none => rw [hp] at h; cases h
   | some x =>
    rw [hp] at h
    exact swap_front (fun p' hp' => hi p' (by simp [hp'])) h
  exact swap (hi p (by simp)) this
end Ps
