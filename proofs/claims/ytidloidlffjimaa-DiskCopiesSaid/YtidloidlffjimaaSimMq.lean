/- Maps whose keys are pointers. -/
import Derived.Test.YtidloidlffjimaaSimMp
import Derived.LaidEql
namespace Ps
set_option linter.unusedVariables false
set_option linter.unusedSimpArgs false
open Go
section
variable {X : Tie} {g : Gh} {w : World} {n : Dn} {fr : Fr} {a : Act} {S : St}
theorem mapPT_spec {P : Program} {t : TypeId} (h : mapPT P t = true) : ∃ k e d i, P.underlying t = some (.map k e) ∧ P.underlying k = some (.pointer d) ∧ P.info? d = some i ∧ i.size ≠ 0 := by
 unfold mapPT at h
 split at h
 ·rename_i k e hu
  split at h
  ·rename_i d hk
   split at h
   ·rename_i i hi
    exact ⟨k, e, d, i, hu, hk, hi, by simpa using h⟩
   ·cases h
  ·cases h
 ·cases h

theorem pkey_step (hS : SR X g S w) {kt d : TypeId} {i : TypeInfo} (hk : X.P.underlying kt = some (.pointer d)) (hi : X.P.info? d = some i) (hsz : i.size ≠ 0) {k q : PV} {u x : Value} (rk : VR X g w k u) (lk : liveP S k = true) (rq : VR X g w q x) (lq : liveP S q = true) :
  (Op.equal kt u x).run X.P w = .ok (PV.beq q k) w ∧ (PV.beq q k = true ↔ x = u) := by
 cases k <;> simp only [liveP] at lk <;> try (cases lk; done)
 cases q <;> simp only [liveP] at lq <;> try (cases lq; done)
 rename_i i1 o1 i2 o2
 have l1 : Live S i1 := by
  split at lk
  ·rename_i c cs e; exact ⟨c, cs, e⟩
  ·cases lk
 have l2 : Live S i2 := by
  split at lq
  ·rename_i c cs e; exact ⟨c, cs, e⟩
  ·cases lq
 cases rk with
 | ptr _ _ b1 h1 =>
  cases rq with
  | ptr _ _ b2 h2 =>
   obtain ⟨_, us1, t1, _, e1, _⟩ := hS.obj i1 b1 h1
   obtain ⟨_, us2, t2, _, e2, _⟩ := hS.obj i2 b2 h2
   by_cases he : i2 = i1 ∧ o2 = o1
   ·obtain ⟨rfl, rfl⟩ := he
    rw [h1] at h2; cases h2
    refine ⟨?_, by simp [PV.beq]⟩
    have h : ∀ d : Nat, (Op.equalIn (d + 1) kt (.pointer (some ⟨b1, o2, none⟩)) (.pointer (some ⟨b1, o2, none⟩))).run X.P w = .ok true w := fun d => by
     simp [Op.equalIn, run_underlying hk, Go.sizeOf, typeInfo, hi, run_sameAddr_same]
    simpa [Op.equal, Op.maxDepth, PV.beq] using h 9999
   ·have hne : (⟨b1, o1, none⟩ : Addr) ≠ ⟨b2, o2, none⟩ := by
     intro e
     injection e with e3 e4
     subst e3; subst e4
     exact he ⟨Nat.le_antisymm (hS.inj _ _ _ h2 h1 l1) (hS.inj _ _ _ h1 h2 l2), rfl⟩
    have hb : PV.beq (.ptr i2 o2) (.ptr i1 o1) = false := by
     rw [Bool.eq_false_iff]
     simp only [PV.beq, ne_eq, Bool.and_eq_true, beq_iff_eq]
     exact he
    rw [hb]
    refine ⟨?_, by simp; exact fun e1 e2 => hne (by rw [e1, e2])⟩
    have h : ∀ d : Nat, (Op.equalIn (d + 1) kt (.pointer (some ⟨b1, o1, none⟩)) (.pointer (some ⟨b2, o2, none⟩))).run X.P w = .ok false w := fun d => by
     simp [Op.equalIn, run_underlying hk, Go.sizeOf, typeInfo, hi, hsz, run_sameAddr_other w hne e1 e2]
    simpa [Op.equal, Op.maxDepth] using h 9999

theorem pfind_asking (hS : SR X g S w) {kt d : TypeId} {i : TypeInfo} (hk : X.P.underlying kt = some (.pointer d)) (hi : X.P.info? d = some i) (hsz : i.size ≠ 0) {k : PV} {u : Value} (rk : VR X g w k u) (lk : liveP S k = true) {cs : List PV} {es : List MapEntry} (h : MR X g w cs es) : keysLive S cs = true → ∀ j : Nat,
  (pfind k cs = none ∧ (Instr.findAsking kt u es j).run X.P w = .ok none w ∧ (∀ e ∈ es, e.key ≠ u)) ∨
  (∃ v m e, pfind k cs = some v ∧ (Instr.findAsking kt u es j).run X.P w = .ok (some (j + m, e.val)) w ∧ es[m]? = some e ∧ VR X g w v e.val ∧ e.key = u) := by
 induction h with
 | nil => intro _ j; exact .inl ⟨rfl, by simp [Instr.findAsking], by simp⟩
 | mark => intro _ j; exact .inl ⟨rfl, by simp [Instr.findAsking], by simp⟩
 | cons q v cs e es hq _ hv _ ih =>
  intro hl j
  simp only [keysLive, Bool.and_eq_true] at hl
  obtain ⟨h1, h2⟩ := pkey_step hS hk hi hsz rk lk hq hl.1
  cases hb : PV.beq q k with
  | true =>
   rw [hb] at h1 h2
   exact .inr ⟨v, 0, e, by simp [pfind, hb], by simp [Instr.findAsking, h1], rfl, hv, h2.1 rfl⟩
  | false =>
   rw [hb] at h1 h2
   have hne : e.key ≠ u := fun z => by have := h2.2 z; cases this
   rcases ih hl.2 (j + 1) with ⟨r1, r2, r3⟩ | ⟨v', m, e', r1, r2, r3, r4, r5⟩
   ·refine .inl ⟨by simp [pfind, hb, r1], by simp [Instr.findAsking, h1, r2], fun x hx => ?_⟩
    rcases List.mem_cons.1 hx with rfl | hx
    ·exact hne
    ·exact r3 x hx
   ·exact .inr ⟨v', m + 1, e', by simp [pfind, hb, r1], by simp [Instr.findAsking, h1, r2]; omega, by simpa using r3, r4, r5⟩

theorem pfindKey {kt d : TypeId} (hk : X.P.underlying kt = some (.pointer d)) {u : Value} {es : List MapEntry} {r : Option (Nat × Value)} (h : (Instr.findAsking kt u es 0).run X.P w = .ok r w) : (Instr.findKey kt u es).run X.P w = .ok r w := by
 cases es with
 | nil =>
  have : r = none := by simpa [Instr.findAsking] using h.symm
  subst this
  simp [Instr.findKey, run_underlying hk, Instr.findNow]
 | cons e es => simp [Instr.findKey, run_underlying hk, Instr.findNow, Instr.sameNow, h]

theorem pcheckKey_run {P : Program} {t d : TypeId} (ht : P.underlying t = some (.pointer d)) (em : Bool) (v : Value) (w : World) : (Instr.checkKey em 10000 t v).run P w = .ok () w := by
 have : ∀ n, (Instr.checkKey em (n + 1) t v).run P w = .ok () w := fun n => by
  unfold Instr.checkKey
  simp only [Sem.run_bind, run_underlying ht, Result.andThen]
  cases v <;> simp
 exact this 9999

theorem plk_does (hS : SR X g S w) (hF : FR X n g w fr a) {ok : Bool} {z : PV} {x k : Opd} {x' k' : Operand} {t : TypeId} (ht : mapPT X.P t = true) (hz : mapZT X.P t z = true) (hx : chkOpd X x' x = true) (hk : chkOpd X k' k = true)
  {id : Nat} {cs : List PV} (he : ev fr x = .map id) (hcs : S.objs[id]? = some cs) (lk : liveP S (ev fr k) = true) (ll : keysLive S cs = true) : Does X g w a (.lookup t x' k' ok) (lookP ok z (pfind (ev fr k) cs)) := by
 intro dst ty pos after guard
 obtain ⟨kt, et, d, i, hu, hkt, hi, hsz⟩ := mapPT_spec ht
 obtain ⟨zu, hz1, hz2⟩ := mapZT_spec hu hz
 have rz : VR X g w z zu := zero_sim hz2
 have rk := opd_sim hF hk
 have rx := opd_sim hF hx
 rw [he] at rx
 generalize hxu : a.eval x' = u at rx
 generalize hku : a.eval k' = uk at rk
 cases rx with
 | map _ b hb =>
  obtain ⟨cs', es, clock, h1, h2, h3, h4⟩ := hS.maps.ent id b hb
  rw [hcs] at h1; cases h1
  rcases pfind_asking hS hkt hi hsz rk lk h4 ll 0 with ⟨r1, r2, _⟩ | ⟨v', j, e', r1, r2, _, r4, _⟩
  ·rw [r1]
   refine ⟨_, ?_, lookP_vr (r := none) (v := z) (u := zu) rz⟩
   simp [execOp, hxu, hku, Instr.lookup, run_underlying hu, MapKept.run_getObj_map h2, pcheckKey_run hkt, pfindKey hkt r2, hz1]
   try (cases ok <;> rfl)
  ·rw [r1]
   refine ⟨_, ?_, lookP_vr (r := some v') (v := v') (u := e'.val) r4⟩
   simp [execOp, hxu, hku, Instr.lookup, run_underlying hu, MapKept.run_getObj_map h2, pcheckKey_run hkt, pfindKey hkt r2]
   try (cases ok <;> rfl)

theorem pput_mr (hS : SR X g S w) {kt d : TypeId} {i : TypeInfo} (hk : X.P.underlying kt = some (.pointer d)) (hi : X.P.info? d = some i) (hsz : i.size ≠ 0) {k v : PV} {u x : Value} (rk : VR X g w k u) (lk : liveP S k = true) (rv : VR X g w v x) {cs : List PV} {es : List MapEntry} (h : MR X g w cs es) : keysLive S cs = true → cs.length % 2 = 0 → ∀ j : Nat,
  ((Instr.findAsking kt u es j).run X.P w = .ok none w ∧ (∀ e ∈ es, e.key ≠ u) ∧ ∀ born, MR X g w (pput k v cs) (es ++ [{ key := u, val := x, born }])) ∨
  (∃ m e, (Instr.findAsking kt u es j).run X.P w = .ok (some (j + m, e.val)) w ∧ es[m]? = some e ∧ e.key = u ∧ MR X g w (pput k v cs) (es.set m { e with key := u, val := x })) := by
 have kk : keyP k = true := by cases k <;> simp [liveP] at lk <;> rfl
 induction h with
 | mark => intro _ h; simp at h
 | nil => intro _ _ j; exact .inl ⟨by simp [Instr.findAsking], by simp, fun born => .cons k v [] _ [] rk kk rv .nil⟩
 | cons q z cs e es hq hqq hz hcs ih =>
  intro hl hev j
  have hev : cs.length % 2 = 0 := by simp only [List.length_cons] at hev; omega
  simp only [keysLive, Bool.and_eq_true] at hl
  obtain ⟨h1, h2⟩ := pkey_step hS hk hi hsz rk lk hq hl.1
  cases hb : PV.beq q k with
  | true =>
   rw [hb] at h1 h2
   refine .inr ⟨0, e, by simp [Instr.findAsking, h1], rfl, h2.1 rfl, ?_⟩
   simp only [pput, hb, if_true]
   exact .cons k v cs _ es rk kk rv hcs
  | false =>
   rw [hb] at h1 h2
   have hne : e.key ≠ u := fun z => by have := h2.2 z; cases this
   have hp : pput k v (q :: z :: cs) = q :: z :: pput k v cs := by simp [pput, hb]
   rw [hp]
   rcases ih hl.2 hev (j + 1) with ⟨r2, r3, r4⟩ | ⟨m, e', r2, r3, r4, r5⟩
   ·refine .inl ⟨by simp [Instr.findAsking, h1, r2], fun x hx => ?_, fun born => .cons q z _ e _ hq hqq hz (r4 born)⟩
    rcases List.mem_cons.1 hx with rfl | hx
    ·exact hne
    ·exact r3 x hx
   ·exact .inr ⟨m + 1, e', by simp [Instr.findAsking, h1, r2]; omega, by simpa using r3, r4, .cons q z _ e _ hq hqq hz r5⟩

theorem pkeyStays_run {k : PV} {u : Value} (rk : VR X g w k u) (lk : liveP S k = true) (w' : World) : (Instr.keyThatStays u u).run X.P w' = .ok u w' := by
 cases k <;> simp only [liveP] at lk <;> try (cases lk; done)
 cases rk
 simp [Instr.keyThatStays, Instr.sameBits]

theorem pset_opWp (hS : SR X g S w) (hF : FR X n g w fr a) {x k v : Opd} {x' k' v' : Operand} {t : TypeId} {id : Nat} {cs : List PV} (ht : mapPT X.P t = true) (hx : chkOpd X x' x = true) (hk : chkOpd X k' k = true) (hv : chkOpd X v' v = true)
  (he : ev fr x = .map id) (hcs : S.objs[id]? = some cs) (lk : liveP S (ev fr k) = true) (ll : keysLive S cs = true) (hev : cs.length % 2 = 0) :
  OpWp X g w a (.mapUpdate t x' k' v') { S with objs := S.objs.set id (pput (ev fr k) (ev fr v) cs) } .und := by
 intro dst ty pos after guard next Q hn
 obtain ⟨kt, et, d, i, hu, hkt, hi, hsz⟩ := mapPT_spec ht
 have rk := opd_sim hF hk
 have rx := opd_sim hF hx
 have rv := opd_sim hF hv
 rw [he] at rx
 generalize hxu : a.eval x' = u at rx
 generalize hku : a.eval k' = uk at rk
 generalize hvu : a.eval v' = uv at rv
 cases rx with
 | map _ b hb =>
  obtain ⟨cs', es, clock, h1, h2, h3, h4⟩ := hS.maps.ent id b hb
  rw [hcs] at h1; cases h1
  have hlt := (List.getElem?_eq_some_iff.1 hcs).1
  rcases pput_mr hS hkt hi hsz rk lk rv h4 ll hev 0 with ⟨r2, r3, r4⟩ | ⟨j, e, r2, r3, r4, r5⟩
  ·have hst := MapKept.stamped_push h3 (key := uk) (val := uv) r3
   obtain ⟨hle, hS'⟩ := map_step hS hb h2 hst hlt (ds := pput (ev fr k) (ev fr v) cs) (by simpa using r4 clock) (not_mfz hS hb hcs hev)
   unfold Oper.wp
   have er : (execOp a.eval ⟨dst, .mapUpdate t x' k' v', ty, pos, after, guard⟩).run X.P w = .ok .skip { w with heap := w.heap.setIfInBounds b (.map (es.push { key := uk, val := uv, born := clock }) (clock + 1)) } := by
    simp [execOp, hxu, hku, hvu, Instr.mapUpdate, run_underlying hu, MapKept.run_getObj_map h2, pcheckKey_run hkt, pfindKey hkt r2, MapKept.run_setObj_map _ h2]
   rw [er]
   exact hn undef _ ⟨g, hle, hS', .und _⟩
  ·rw [Nat.zero_add] at r2
   have hje : es[j]? = some e := by simpa using r3
   have hst := MapKept.stamped_modify h3 j (fun e => { e with key := uk, val := uv }) (fun _ _ => rfl) (fun e' _ h => by rw [hje] at h; cases h; exact r4.symm)
   have hset : (es.modify j (fun e => { e with key := uk, val := uv })).toList = es.toList.set j { e with key := uk, val := uv } := by
    apply List.ext_getElem?
    intro i
    have hjl : j < es.toList.length := (List.getElem?_eq_some_iff.1 r3).1
    simp only [Array.getElem?_toList, Array.getElem?_modify]
    by_cases hij : j = i
    ·subst hij
     rw [if_pos rfl, hje, List.getElem?_set_self hjl]; rfl
    ·rw [if_neg hij, List.getElem?_set_ne hij]; simp
   obtain ⟨hle, hS'⟩ := map_step hS hb h2 hst hlt (ds := pput (ev fr k) (ev fr v) cs) (by rw [hset]; exact r5) (not_mfz hS hb hcs hev)
   unfold Oper.wp
   have hstay := fun w' => pkeyStays_run (X := X) (S := S) rk lk w'
   have er : (execOp a.eval ⟨dst, .mapUpdate t x' k' v', ty, pos, after, guard⟩).run X.P w = .ok .skip { w with heap := w.heap.setIfInBounds b (.map (es.modify j (fun e => { e with key := uk, val := uv })) clock) } := by
    simp [execOp, hxu, hku, hvu, Instr.mapUpdate, run_underlying hu, MapKept.run_getObj_map h2, pcheckKey_run hkt, pfindKey hkt r2, MapKept.run_setObj_map _ h2, hje, r4, hstay]
   rw [er]
   exact hn undef _ ⟨g, hle, hS', .und _⟩
end
end Ps
