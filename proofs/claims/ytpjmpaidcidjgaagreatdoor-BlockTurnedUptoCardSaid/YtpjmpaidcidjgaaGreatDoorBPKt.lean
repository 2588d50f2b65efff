/- Samples are cut into chunks. -/
import Derived.Test.YtpjmpaidcidjgaaGreatDoorChecked
import Derived.Test.YtpjmpaidcidjgaaGreatDoorSimVKt
import Derived.WalkKit
import Derived.LaidEql
import Derived.Test.YtpjmpaidcidjgaaGreatDoorAbbKt
import Derived.Test.YtpjmpaidcidjgaaGreatDoorTieXKt
import Derived.Test.YtpjmpaidcidjgaaGreatDoorExtMKt
import Derived.Test.YtpjmpaidcidjgaaGreatDoorOkDKt
import Derived.Test.YtpjmpaidcidjgaaGreatDoorBSKt
namespace Go.Proofs
open Go.RowKit Go.Extern

theorem Tz.valueOf77 (t : Addr) (w : World) : (ReflectliteValue.unpack (.iface 77 (.pointer (some t)))).run Tryz.prog w
  = .ok (.agg #[.pointer (some ⟨1, 77, none⟩), .pointer (some ⟨w.heap.size, 0, none⟩), .int .u64 150]) (w.alloc (.cells #[.pointer (some t)] 77)) := by kernel_rfl
theorem Tz.type77 (a : Addr) (w : World) : (ReflectliteValue.methodAny (ReflectliteValue.valueError "reflectlite.Value.Type" 0) (fun t _ _ _ => ReflectliteType.toType t) #[.agg #[.pointer (some ⟨1, 77, none⟩), .pointer (some a), .int .u64 150]]).run Tryz.prog w
  = .ok (.iface 169 (.agg #[.pointer (some ⟨1, 77, none⟩)])) w := by kernel_rfl
theorem Tz.methodKind (h : Value) (w : World) : (Go.method 350 169 (.agg #[h]) "Kind").run Tryz.prog w = .ok (154, h) w := by kernel_rfl
theorem Tz.kind77 (w : World) : ((ReflectliteType.abiMethod fun t => (fun a : Nat => Value.int IntKind.u8 (a : Int)) <$> Rtype.kind t) #[.pointer (some ⟨1, 77, none⟩)]).run Tryz.prog w = .ok (.int .u8 22) w := by kernel_rfl
theorem Tz.kind72 (w : World) : ((ReflectliteType.abiMethod fun t => (fun a : Nat => Value.int IntKind.u8 (a : Int)) <$> Rtype.kind t) #[.pointer (some ⟨1, 72, none⟩)]).run Tryz.prog w = .ok (.int .u8 25) w := by kernel_rfl

theorem Tz.rlm (z : Sem Value) (f : TypeId → Addr → Nat → Nat → Sem Value) (v : Value) :
  ReflectliteValue.method z f #[v] = (do match ← ReflectliteValue.parts v with | none => z | some (t, a, fl) => f t a fl (fl % 32)) := rfl
theorem Tz.parts77 (a : Addr) (w : World) : (ReflectliteValue.parts (.agg #[.pointer (some ⟨1, 77, none⟩), .pointer (some a), .int .u64 150])).run Tryz.prog w = .ok (some (77, a, 150)) w := by kernel_rfl
theorem Tz.isNil77 (a p : Addr) (W : World) (ha : W.cell? a = some (.pointer (some p))) :
  (ReflectliteValue.method (ReflectliteValue.valueError "reflectlite.Value.IsNil" 0) ReflectliteValue.isNil #[.agg #[.pointer (some ⟨1, 77, none⟩), .pointer (some a), .int .u64 150]]).run Tryz.prog W = .ok (.bool false) W := by
 rw [Tz.rlm];simp only [Sem.run_bind, Tz.parts77, Result.andThen];simp [ReflectliteValue.isNil, loadVar, isAgg, underlying, Tryz.underlying77, ha, Result.andThen]

theorem Tz.methodElem (h : Value) (w : World) : (Go.method 350 169 (.agg #[h]) "Elem").run Tryz.prog w = .ok (164, .agg #[h]) w := by kernel_rfl
theorem Tz.methodImplements (h : Value) (w : World) : (Go.method 350 169 (.agg #[h]) "Implements").run Tryz.prog w = .ok (165, .agg #[h]) w := by kernel_rfl
theorem Tz.methodAssignableTo (h : Value) (w : World) : (Go.method 350 169 (.agg #[h]) "AssignableTo").run Tryz.prog w = .ok (162, .agg #[h]) w := by kernel_rfl
theorem Tz.elem77 (w : World) : (ReflectliteType.method ReflectliteType.elem #[.agg #[.pointer (some ⟨1, 77, none⟩)]]).run Tryz.prog w = .ok (.iface 169 (.agg #[.pointer (some ⟨1, 72, none⟩)])) w := by kernel_rfl
theorem Tz.implements72 (w : World) : (ReflectliteType.relation "Implements" ReflectliteType.implements_ #[.agg #[.pointer (some ⟨1, 72, none⟩)], .iface 169 (.agg #[.pointer (some ⟨1, 74, none⟩)])]).run Tryz.prog w = .ok (.bool true) w := by kernel_rfl
theorem Tz.typeOf72 (v : Value) (w : World) : (ReflectliteType.typeOf #[.iface 72 v]).run Tryz.prog w = .ok (.iface 169 (.agg #[.pointer (some ⟨1, 72, none⟩)])) w := by kernel_rfl
theorem Tz.assignable72 (w : World) : (ReflectliteType.relation "AssignableTo" ReflectliteType.assignableTo #[.agg #[.pointer (some ⟨1, 72, none⟩)], .iface 169 (.agg #[.pointer (some ⟨1, 72, none⟩)])]).run Tryz.prog w = .ok (.bool true) w := by kernel_rfl
theorem Tz.valueOf72 (n : Int) (w : World) : (ReflectliteValue.unpack (.iface 72 (.agg #[.int .i64 n]))).run Tryz.prog w
  = .ok (.agg #[.pointer (some ⟨1, 72, none⟩), .pointer (some ⟨w.heap.size, 0, none⟩), .int .u64 153]) (w.alloc (.cells #[.int .i64 n] 72)) := by kernel_rfl

theorem Tz.elemOf77 (w : World) : (Rtype.elem? 77).run Tryz.prog w = .ok (some 72) w := by kernel_rfl
theorem Tz.mk72 (p : Addr) (w : World) : (ReflectliteValue.mk 72 p ReflectliteValue.flagAddr).run Tryz.prog w = .ok (.agg #[.pointer (some ⟨1, 72, none⟩), .pointer (some p), .int .u64 409]) w := by kernel_rfl
theorem Tz.elemV77 (a p : Addr) (W : World) (ha : W.cell? a = some (.pointer (some p))) :
  (ReflectliteValue.method (ReflectliteValue.valueError "reflectlite.Value.Elem" 0) ReflectliteValue.elem #[.agg #[.pointer (some ⟨1, 77, none⟩), .pointer (some a), .int .u64 150]]).run Tryz.prog W
   = .ok (.agg #[.pointer (some ⟨1, 72, none⟩), .pointer (some p), .int .u64 409]) W := by
 rw [Tz.rlm];simp only [Sem.run_bind, Tz.parts77, Result.andThen];simp [ReflectliteValue.elem, loadVar, isAgg, underlying, Tryz.underlying77, ha, Result.andThen, Tz.elemOf77, Tz.mk72]
theorem Tz.rls (v x : Value) : ReflectliteValue.set #[v, x] = (do
  let (some (dst, a, fl), some (src, b, _)) := (← ReflectliteValue.parts v, ← ReflectliteValue.parts x)
   | unsupported (.noEntry "extern/(internal/reflectlite.Value).Set.zeroValue")
  if fl / ReflectliteValue.flagAddr % 2 == 0 then unsupported (.noEntry "extern/(internal/reflectlite.Value).Set.unaddressable")
  let val ← loadVar src b
  if ← Rtype.directlyAssignable dst src then storeVar dst a val
  else if ← Rtype.implements dst src then
   if (← Rtype.kind src) == 20 then
    match val with
    | .nilIface => unsupported (.noEntry "extern/reflectlite: a nil value of one interface type handed on as a value of another")
    | _ => storeVar dst a val
   else storeVar dst a (.iface src val)
  else panicString ("reflectlite.Set: value of type " ++ (← Rtype.spelt src) ++ " is not assignable to type " ++ (← Rtype.spelt dst))
  pure (.tuple #[])) := rfl
theorem Tz.parts72a (a : Addr) (w : World) : (ReflectliteValue.parts (.agg #[.pointer (some ⟨1, 72, none⟩), .pointer (some a), .int .u64 409])).run Tryz.prog w = .ok (some (72, a, 409)) w := by kernel_rfl
theorem Tz.parts72 (a : Addr) (w : World) : (ReflectliteValue.parts (.agg #[.pointer (some ⟨1, 72, none⟩), .pointer (some a), .int .u64 153])).run Tryz.prog w = .ok (some (72, a, 153)) w := by kernel_rfl
theorem Tz.direct72 (w : World) : (Rtype.directlyAssignable 72 72).run Tryz.prog w = .ok true w := by kernel_rfl
theorem Tz.size72 (w : World) : (sizeOf 72).run Tryz.prog w = .ok 1 w := by kernel_rfl
theorem Tz.isAgg72 (w : World) : (isAgg 72).run Tryz.prog w = .ok true w := by kernel_rfl
theorem Tz.set72 (ta b : Addr) (n : Int) (old : Value) (W : World) (hb : W.cell? b = some (.int .i64 n)) (ht : W.cell? ta = some old) (hf : W.frozen? ta = false) :
  (ReflectliteValue.set #[.agg #[.pointer (some ⟨1, 72, none⟩), .pointer (some ta), .int .u64 409], .agg #[.pointer (some ⟨1, 72, none⟩), .pointer (some b), .int .u64 153]]).run Tryz.prog W
   = .ok (.tuple #[]) (W.setCell ta (.int .i64 n)) := by
 rw [Tz.rls];simp only [Sem.run_bind, Tz.parts72a, Tz.parts72, Result.andThen]
 have hl : (loadCellsFrom b 0 1 #[]).run Tryz.prog W = .ok #[.int .i64 n] W := by
  simp [loadCellsFrom, Addr.add, hb]
 simp [ReflectliteValue.flagAddr, loadVar, Tz.isAgg72, Tz.size72, hl, Result.andThen, Tz.direct72, storeVar, Value.cells, storeCells, loadCells, Addr.add];rw [run_store Tryz.prog W ta _ _ (by rfl)];simp [ht, hf]

set_option maxHeartbeats 4000000 in
set_option maxRecDepth 20000 in
theorem Tz.as_hit (n : Int) (t : Addr) (old : Value) (w : World) (hg : w.cell? ⟨0, 0, none⟩ = some (.iface 169 (.agg #[.pointer (some ⟨1, 74, none⟩)]))) (ht0 : w.cell? t = some old) (hf0 : w.frozen? t = false) :
  Calls Tryz.prog 36 #[.iface 72 (.agg #[.int .i64 n]), .iface 77 (.pointer (some t))] w fun ev w' => ev = .returned (.bool true) ∧ w' = ((((w.alloc (.cells #[.pointer (some t)] 77)).alloc (.cells #[.pointer (some ⟨1, 77, none⟩), .pointer (some ⟨w.heap.size, 0, none⟩), .int .u64 150] 127)).alloc (.cells #[.pointer (some ⟨1, 77, none⟩), .pointer (some ⟨w.heap.size, 0, none⟩), .int .u64 150] 127)).alloc (.cells #[.int .i64 n] 72)).setCell t (.int .i64 n) := by
 have h6 := @run_callFunc_extern Tryz.prog 63 _ (fun args => ReflectliteValue.unpack (args.getD 0 (.tuple #[]))) Tryz.func63 (by kernel_rfl) (by kernel_rfl) (by kernel_rfl) (by kernel_rfl);have h7 := @run_callFunc_extern Tryz.prog 64 _ (ReflectliteValue.methodAny (ReflectliteValue.valueError "reflectlite.Value.Type" 0) (fun t _ _ _ => ReflectliteType.toType t)) Tryz.func64 (by kernel_rfl) (by kernel_rfl) (by kernel_rfl) (by kernel_rfl);have h8 := @run_callFunc_extern Tryz.prog 65 _ (ReflectliteValue.method (ReflectliteValue.valueError "reflectlite.Value.IsNil" 0) ReflectliteValue.isNil) Tryz.func65 (by kernel_rfl) (by kernel_rfl) (by kernel_rfl) (by kernel_rfl);have h27 := @run_callFunc_extern Tryz.prog 154 _ (ReflectliteType.abiMethod fun t => do pure (.int .u8 (← Rtype.kind t))) Tryz.func154 (by kernel_rfl) (by kernel_rfl) (by kernel_rfl) (by kernel_rfl)
 have h37 := @run_callFunc_extern Tryz.prog 164 _ (ReflectliteType.method ReflectliteType.elem) Tryz.func164 (by kernel_rfl) (by kernel_rfl) (by kernel_rfl) (by kernel_rfl);have h38 := @run_callFunc_extern Tryz.prog 165 _ (ReflectliteType.relation "Implements" ReflectliteType.implements_) Tryz.func165 (by kernel_rfl) (by kernel_rfl) (by kernel_rfl) (by kernel_rfl);have h10 := @run_callFunc_extern Tryz.prog 95 _ ReflectliteType.typeOf Tryz.func95 (by kernel_rfl) (by kernel_rfl) (by kernel_rfl) (by kernel_rfl);have h35 := @run_callFunc_extern Tryz.prog 162 _ (ReflectliteType.relation "AssignableTo" ReflectliteType.assignableTo) Tryz.func162 (by kernel_rfl) (by kernel_rfl) (by kernel_rfl) (by kernel_rfl)
 have h11 := @run_callFunc_extern Tryz.prog 96 _ (ReflectliteValue.method (ReflectliteValue.valueError "reflectlite.Value.Elem" 0) ReflectliteValue.elem) Tryz.func96 (by kernel_rfl) (by kernel_rfl) (by kernel_rfl) (by kernel_rfl);have h12 := @run_callFunc_extern Tryz.prog 97 _ ReflectliteValue.set Tryz.func97 (by kernel_rfl) (by kernel_rfl) (by kernel_rfl) (by kernel_rfl);have tO := Tz.typeOf72;have mA := Tz.methodAssignableTo;have a25 := Tz.assignable72;have v25 := Tz.valueOf72;have f6 := Tz.valueOf77;have f7 := Tz.type77;have mK := Tz.methodKind;have mE := Tz.methodElem;have mI := Tz.methodImplements;have k27 := Tz.kind77;have k25 := Tz.kind72;have e27 := Tz.elem77;have i25 := Tz.implements72
 have n8 := Tz.isNil77 ⟨w.heap.size, 0, none⟩ t ((w.alloc (.cells #[.pointer (some t)] 77)).alloc (.cells #[.pointer (some ⟨1, 77, none⟩), .pointer (some ⟨w.heap.size, 0, none⟩), .int .u64 150] 127)) (by simp)
 have hlt : 0 < w.heap.size := by
  rcases Nat.eq_zero_or_pos w.heap.size with h0 | h
  ·simp [World.cell?, h0] at hg
  ·exact h
 have hg2 : ((w.alloc (.cells #[.pointer (some t)] 77)).alloc (.cells #[.pointer (some ⟨1, 77, none⟩), .pointer (some ⟨w.heap.size, 0, none⟩), .int .u64 150] 127)).cell? ⟨0, 0, none⟩ = some (.iface 169 (.agg #[.pointer (some ⟨1, 74, none⟩)])) := by
  rw [World.cell?_alloc_lt _ _ ⟨0, 0, none⟩ (by simp), World.cell?_alloc_lt _ _ ⟨0, 0, none⟩ hlt]; exact hg
 have htl : t.block < w.heap.size := by
  rcases Nat.lt_or_ge t.block w.heap.size with h | h
  ·exact h
  ·simp [World.cell?, Array.getElem?_eq_none h] at ht0
 have el := Tz.elemV77 ⟨w.heap.size, 0, none⟩ t (((w.alloc (.cells #[.pointer (some t)] 77)).alloc (.cells #[.pointer (some ⟨1, 77, none⟩), .pointer (some ⟨w.heap.size, 0, none⟩), .int .u64 150] 127)).alloc (.cells #[.pointer (some ⟨1, 77, none⟩), .pointer (some ⟨w.heap.size, 0, none⟩), .int .u64 150] 127)) (by rw [World.cell?_alloc_lt _ _ ⟨w.heap.size, 0, none⟩ (by simp; omega)]; simp)
 have st := Tz.set72 t ⟨w.heap.size + 1 + 1 + 1, 0, none⟩ n old ((((w.alloc (.cells #[.pointer (some t)] 77)).alloc (.cells #[.pointer (some ⟨1, 77, none⟩), .pointer (some ⟨w.heap.size, 0, none⟩), .int .u64 150] 127)).alloc (.cells #[.pointer (some ⟨1, 77, none⟩), .pointer (some ⟨w.heap.size, 0, none⟩), .int .u64 150] 127)).alloc (.cells #[.int .i64 n] 72))
  (by rw [World.cell?_alloc_at _ _ _ _ (by simp)]; rfl)
  (by rw [World.cell?_alloc_lt _ _ t (by simp; omega), World.cell?_alloc_lt _ _ t (by simp; omega), World.cell?_alloc_lt _ _ t (by simp; omega), World.cell?_alloc_lt _ _ t htl]; exact ht0)
  (by rw [World.frozen?_alloc_old _ _ t (by simp; omega), World.frozen?_alloc_old _ _ t (by simp; omega), World.frozen?_alloc_old _ _ t (by simp; omega), World.frozen?_alloc_old _ _ t (Nat.ne_of_lt htl)]; exact hf0)
 go_enter Tryz.func36, Tryz.ntmps36
 go_wp2
 refine wp_loop_rounds 1 ?_;rw [rounds_succ]
 go_wp2
 go_ret
 exact ⟨rfl, rfl⟩
end Go.Proofs
set_option linter.defProp false
namespace Ps
set_option linter.unusedSimpArgs false
set_option linter.unusedVariables false
open Go Go.Proofs
open Go.RowKit (Below)
def iI:List PV→St→Option (PV×St)
 | [.iface 3 (.agg [.int .i64 n]),.iface 2 (.ptr id off)],S=>match S.objs[id]? with
  |some cs=>if off<cs.length then some (.bool true,{S with objs:=S.objs.set id (bB cs off [.int .i64 n])})else none
  |none=>none
 |_,_=>none
def QV{X:Tie}{g:Gh}{w:World}{a b:PV}{us:Array Value}(hV:bD X g w [a,b] us):∃x y,us = #[x,y]∧VR X g w a x∧VR X g w b y:=by
 have h2:us.size=2:=hV.1.symm;refine⟨us[0],us[1],?_,hV.2 0 a us[0] rfl (dy (by omega)),hV.2 1 b us[1] rfl (dy (by omega))⟩;apply tQ
 ·simp[h2]
 ·intro i hi1 hi2;simp at hi2
  match i with
  |0=>rfl
  |1=>rfl
  |i+2=>omega
set_option maxRecDepth 20000 in
def zf:oB tie 159 iI:=by
 intro args S r S' h g w us hS hV;unfold iI at h;split at h
 ·rename_i n id off;split at h
  ·rename_i cs hcs;split at h
   ·rename_i hoff;cases h;obtain⟨x,y,rfl,hx,hy⟩:=QV hV
    cases hx with
    |iface _ _ u0 h0=>
     have hu0:u0=.agg #[.int .i64 n]:=by
      cases h0 with
      |agg _ vs hl hv=>
       obtain⟨l⟩:=vs
       match l,hl with
       | [a],_=>have h0:=hv 0 _ _ rfl rfl;cases h0;rfl
     subst hu0
     cases hy with
     |iface _ _ u1 h1=>
      cases h1 with
      |ptr _ _ b hb=>
       have ht3:tie.ty 3=72:=by kernel_rfl
       have ht2:tie.ty 2=77:=by kernel_rfl
       rw[ht3,ht2];obtain⟨hpr,hgl⟩:=hS.gl (0,.iface 169 (.agg #[.pointer (some ⟨1,74,none⟩)])) (qk.2 rfl);obtain⟨cs',us',t,q1,⟨⟨flo,fhi⟩,q2,hzz⟩,q3,q4⟩:=hS.obj id b hb;simp only at hzz;rw[hcs]at q1;cases q1;have hlt:off<us'.size:=by omega
       have hcell:w.cell? ⟨b,off,none⟩=some us'[off]:=by simp[World.cell?,q2,hlt]
       have hfz:w.frozen? ⟨b,off,none⟩=false:=by simp[World.frozen?,q2];omega
       have hcall:=Tz.as_hit n ⟨b,off,none⟩ us'[off] w hgl hcell hfz;have hfn:tie.fnOf 159=36:=by kernel_rfl
       rw[hfn];refine Nn (X:=tie) (f:=36) (fn:=Tryz.f36) Tryz.func36 (by decide +kernel) (by kernel_rfl) (hcall.mono fun e w' he=>?_);obtain⟨rfl,hw'⟩:=he;refine⟨_,rfl,?_⟩;have hbl:b<w.heap.size:=(bc.1 q2).1;obtain⟨w4,hw4⟩:∃w4,w4=(((w.alloc (.cells #[.pointer (some ⟨b,off,none⟩)] 77)).alloc (.cells #[.pointer (some ⟨1,77,none⟩),.pointer (some ⟨w.heap.size,0,none⟩),.int .u64 150] 127)).alloc (.cells #[.pointer (some ⟨1,77,none⟩),.pointer (some ⟨w.heap.size,0,none⟩),.int .u64 150] 127)).alloc (.cells #[.int .i64 n] 72):=⟨_,rfl⟩;rw[←hw4]at hw'
       have hB:Below w.heap.size w w4:=by
        rw[hw4];exact((((Below.refl _ w).alloc (aR _) _).alloc (by simp) _).alloc (by simp;omega) _).alloc (by simp;omega) _
       have hle:=me hS hB;have hS4:=tH hS hB
       obtain⟨w5,hrun,hst⟩:=xz (off:=off) (cs:=cs) (vs:=[.int .i64 n]) (xs:=#[.int .i64 n]) hS4 hb hcs ⟨rfl,fun j c u e1 e2=>by
        cases j with
        |zero=>simp at e1 e2;subst e1;subst e2;exact .int _ _
        |succ j=>simp at e1⟩ rfl (by have:=hoff;simp only[bE,cP];omega)
       have hc4:w4.cell? ⟨b,off,none⟩=some us'[off]:=by rw[←hcell];simp only[World.cell?,hB.block b hbl]
       have hf4:w4.frozen? ⟨b,off,none⟩=false:=by rw[←hfz];simp only[World.frozen?,hB.block b hbl]
       have hrun2:(storeCells ⟨b,off,none⟩ [.int .i64 n]).run tie.P w4=.ok () (w4.setCell ⟨b,off,none⟩ (.int .i64 n)):=by
        simp only[storeCells,Sem.run_bind,Addr.add];simp[run_store_int,stored,hc4,hf4]
       have hw5:w5=w':=by
        have:(storeCells ⟨b,off,none⟩ [.int .i64 n]).run tie.P w4=.ok () w5:=by simpa using hrun
        rw[hrun2]at this;cases this;exact hw'.symm
       subst hw5;obtain⟨g',hl',hS',_⟩:=hst;exact⟨g',hle.trans hl',hS',.bool true⟩
   ·cases h
  ·cases h
 ·cases h
end Ps
set_option linter.defProp false
namespace Ps
set_option linter.unusedSimpArgs false
set_option linter.unusedVariables false
open Go Go.Proofs
set_option maxRecDepth 100000
def Ab:PV→ad
 |.agg [.str a,.str b]=>(a,b,())
 |_=>([],[],())
def oc:PV→List PV
 |.sl _ es _=>es
 |_=>[]
def od(v:PV):List (List ad):=(oc v).map fun e=>(oc e).map Ab
def TQ{sz:Nat}{v:PV}{es:List PV}(h:bM sz v es):oc v=es:=by
 rcases h.val with⟨rfl,rfl⟩|⟨sp,rfl,_⟩<;>rfl
def TR{S:St}{sz n0:Nat}{v:PV}{es:List PV}(h:dq S sz n0 v es):oc v=es:=by
 rcases h with⟨rfl,rfl⟩|⟨id,_,rfl,_⟩<;>rfl
def TS(l:List ad):(l.map az).map Ab=l:=by
 rw[tg]
 conv=>rhs;rw[←tf l]
 exact qi fun x _=>rfl
def TT{sv:PV}{qs:List PV}{ls:List (List ad)}(he:oc sv=qs)(hl:qs.length=ls.length)(hq:∀(j:Nat)(h:j<ls.length)(h':j<qs.length),bM 2 qs[j] (ls[j].map az)):od sv=ls:=by
 unfold od;rw[he];apply List.ext_getElem (by simpa using hl);intro i h1 h2;simp only[List.getElem_map];rw[TQ (hq i h2 (by omega)),TS]
open Classical in
noncomputable def lZ:List PV→St→Option (PV×St)
 | [.ptr ox 0],S=>match S.objs[ox]? with
  |some [sv,.map _]=>if iw S (.ptr ox 0) (od sv)∧fy (od sv)then some (.sl none (aJ (df (od sv))) [],S)else none
  |_=>none
 |_,_=>none
def TU{S:St}{p:PV}{ls:List (List ad)}(h:iw S p ls)(hx:fy ls):lZ [p] S=some (.sl none (aJ (df ls)) [],S):=by
 obtain⟨ox,om,n0,sv,qs,kv,rfl,hne,hox,hom,hown,hql,hqs,hnd,hk⟩:=id h.at_;have e:=TT (TR hown) hql hqs;unfold lZ;simp only[hox];rw[if_pos (by rw[e];exact⟨h,hx⟩),e]
noncomputable def T1:aM:=⟨fun f=>if f=159 then some (.exs iI)else if f=134 then some (.exs lZ)else T.fn f,T.meth⟩
noncomputable def tie1:Tie:=tie.withT T1
def TV:T1.fn 159=some (.exs iI):=rfl
def TW:T1.fn 134=some (.exs lZ):=rfl
def Ac(f:Nat):T1.fn f=if f=159 then some (.exs iI)else if f=134 then some (.exs lZ)else T.fn f:=rfl
def TX:T.fn 159=none:=rfl
def TY:T.fn 134=none:=rfl
def TZ:qK T T1 where
 meth:=rfl
 fn:=fun f pf h=>by
  have h1:f≠159:=fun e=>by rw[e]at h;exact absurd (h.symm.trans TX) (by simp)
  have h2:f≠134:=fun e=>by rw[e]at h;exact absurd (h.symm.trans TY) (by simp)
  rw[Ac,if_neg h1,if_neg h2];exact h
def jf{f:Nat}{args:List PV}{S:St}{r:PV×St}(h:aS T f args S=some r):aS T1 f args S=some r:=Zy TZ h
def Ta:oB (tie.withT T1) 134 lZ:=oH (X:=tie) (T:=T1) fun args S r S' he=>by
 unfold lZ at he;split at he
 ·split at he
  ·split at he
   ·rename_i hh;cases he;exact Aa hh.1 hh.2
   ·cases he
  ·cases he
 ·cases he
def Tb:ai (tie.withT T1) 159 (.exs iI):=ai.tb (X:=tie) (T:=T1) (show ai tie 159 (.exs iI)from zf)
def ue:bY (tie.withT T1):=bY.of (X:=tie) (T:=T1) tieOk rfl fun f pf h=>by
 rw[Ac]at h;by_cases e:f=159
 ·rw[if_pos e]at h;have:=gh h;subst this e;exact Tb
 ·rw[if_neg e]at h;by_cases e2:f=134
  ·rw[if_pos e2]at h;have:=gh h;subst this e2;exact Ta
  ·rw[if_neg e2]at h;exact(tieOk.fns f pf h).tb
def Tc{S:St}{p:PV}{ls:List (List ad)}(h:iw S p ls)(hx:fy ls):aS T1 134 [p] S=some (.sl none (aJ (df ls)) [],S):=kQ TW (TU h hx)
end Ps
set_option linter.defProp false
namespace Ps
set_option linter.unusedSimpArgs false
set_option linter.unusedVariables false
open Go
def cz(l:List Sm):List (List Sm):=if h:l=[]then []else l.take 120::cz (l.drop 120)
termination_by l.length
decreasing_by
 have:=List.length_pos_iff.2 h;simp;omega
def Sn{sz:Nat}{v:PV}{es:List PV}(h:cU sz v es){hi:Nat}{k:IntKind}(hh:hi≤es.length):∃v',dk sz none (some (.int k (hi:Int))) v=some v'∧cU sz v' (es.take hi):=by
 rcases h with⟨rfl,rfl⟩|⟨tip,sp,rfl,h⟩
 ·have:hi=0:=by simpa using hh
  subst this;exact⟨.nils,by rw[tL,sH (by omega)],.inl ⟨rfl,rfl⟩⟩
 ·refine⟨.sl (if hi=es.length then tip else none) (es.take hi) ((es++sp).drop hi),?_,.inr ⟨_,_,rfl,fun e he=>?_⟩⟩
  ·rw[tM,nZ h,sH (by omega)];simp only[tT,bg,if_false,oM,jW hh]
  apply h;rcases bn.1 he with he|he
  ·exact oR _ (jV he)
  ·exact fo he
def qz(qs:List PV)(cs:List (List Sm)):Prop:=qs.length=cs.length∧∀(i:Nat) (h:i<qs.length) (h':i<cs.length),∃tip,qs[i]=.sl tip (cs[i].map bJ) []
def rB(v:PV)(cs:List (List Sm)):Prop:=∃es,bM 1 v es∧es.length=cs.length∧∀(i:Nat) (h:i<cs.length) (h':i<es.length),bM 2 es[i] (cs[i].map bJ)
def So:T.fn 263=some (.code kX):=rfl
def Sp{S0:St}{K:List Kt}{Q:Fr→St→Prop}:∀(n:Nat) (l:List Sm),l.length=n→n≤4000000000→∀(cs:List (List Sm)) (qs:List PV) (v:PV) (fr:Fr) (S:St),cs.length+l.length≤4000000000 →
  cU 2 v (l.map bJ)→fr 0=v→bI S0 1 S (fr 3) qs→qz qs cs→(∀fr' S' qs',bI S0 1 S' (fr' 3) qs'→qz qs' (cs++cz l)→Ok (aF T K fr' S') Q) →
  Ok (aF T (.lp wU::.blk 0::K) fr S) Q:=by
 intro n
 induction n using Nat.strongRecOn with
 |_ n ih=>
  intro l hln hn cs qs v fr S hb hv h0 ha hq kk;have hlen:=hv.len;rw[dN]at hlen;rw[bH];by_cases hl:l=[]
  ·subst hl;simp -implicitDefEqProofs [h0,hlen];refine kk _ _ qs (by simpa using ha) ?_;rw[cz,dif_pos rfl,dn];exact hq
  ·have hpos:(0:Int)<(l.length:Int):=by have:=List.length_pos_iff.2 hl;omega
   have hmin:(if(120:Int)<(l.length:Int)then(120:Int)else(l.length:Int))=((min 120 l.length:Nat):Int):=by split<;>omega
   obtain⟨v1,s1,s2⟩:=Sn hv (hi:=min 120 l.length) (k:=.i64) (by rw[dN];omega);obtain⟨v2,s3,s4⟩:=hv.lo (lo:=min 120 l.length) (k:=.i64) (by rw[dN];omega)
   have e1:(l.map bJ).take (min 120 l.length)=(l.take 120).map bJ:=by
    rw[←oQ];congr 1;by_cases h:120≤l.length
    ·rw[tv h]
    ·rw[Nat.min_eq_right (by omega),jX (by omega),jX (by omega)]
   have e2:(l.map bJ).drop (min 120 l.length)=(l.drop 120).map bJ:=by
    rw[←qj];congr 1;by_cases h:120≤l.length
    ·rw[tv h]
    ·rw[Nat.min_eq_right (by omega),zM (by omega),zM (by omega)]
   rw[e1]at s2;rw[e2]at s4;have hap:=s2.appdS (S:=S);have hpl:((l.take 120).map bJ).length≤120:=by simp;omega
   have hA:dT 2 16 S .nils ((l.take 120).map bJ)=some (.sl (some (S.tips.length,((l.take 120).map bJ).length)) ((l.take 120).map bJ) [],⟨S.objs,S.tips++[(((l.take 120).map bJ).length,2)]⟩):=by
    have hne:((l.take 120).map bJ).isEmpty=false:=by cases l with|nil=>exact absurd rfl hl|cons a r=>rfl
    unfold dT;simp only[hne,bg,if_false];rw[if_pos (by omega)];rfl
   have hpos2:0<l.length:=List.length_pos_iff.2 hl;have hql:=hq.1;obtain⟨v',S2,a1,a2,a3⟩:=(ha.arrs [(((l.take 120).map bJ).length,2)]).push (bytes:=24) (.sl (some (S.tips.length,((l.take 120).map bJ).length)) ((l.take 120).map bJ) []) (by omega);have hL:=ih (l.drop 120).length (by have:=List.length_pos_iff.2 hl;simp;omega) (l.drop 120) rfl (by simp;omega) (cs++[l.take 120]) (qs++[.sl (some (S.tips.length,((l.take 120).map bJ).length)) ((l.take 120).map bJ) []]) v2;have hcut:cz l=l.take 120::cz (l.drop 120):=by rw[cz,dif_neg hl]
   have hqs:qz (qs++[.sl (some (S.tips.length,((l.take 120).map bJ).length)) ((l.take 120).map bJ) []]) (cs++[l.take 120]):=by
    refine⟨by simp[hql],fun i h h'=>?_⟩;by_cases e:i<qs.length
    ·obtain⟨tip,ht⟩:=hq.2 i e (by omega);rw[List.getElem_append_left e,List.getElem_append_left (by omega)];exact⟨tip,ht⟩
    ·have:i=qs.length:=by simp at h;omega
     subst this;exact⟨some (S.tips.length,((l.take 120).map bJ).length),by simp[hql]⟩
   simp only[eh,ij,zT]at a1;generalize (l.take 120).map bJ=pc at *;simp -implicitDefEqProofs [h0,hlen,hpos,hpos2,hmin,s1,s3,hap,hA,aH,cx,eP,a1];exact hL _ _ (by simp;omega) s4 (by simp) (by simpa using a2) hqs (fun fr' S' qs' b1 b2=>kk fr' S' qs' b1 (by rw[hcut];simpa using b2))
def Sr{l:List Sm}{v:PV}(hv:cU 2 v (l.map bJ))(hl:l.length≤4000000000)(S:St):∃v',aS T 263 [v] S=some (v',S)∧rB v' (cz l):=by
 have main:∀Q:Fr→St→Prop,(∀fr S' v' qs,bI S 1 S' v' qs→qz qs (cz l)→fr 2=v'→Q fr S')→Ok (aF T [.code kX.body] (bX [v]) S) Q:=by
  intro Q hQ;simp -implicitDefEqProofs [kX];refine Sp l.length l rfl hl [] [] v _ S (by simp;exact hl) hv (by simp) (by simpa using Nc 1 (aV.refl S)) ⟨rfl,fun i h=>by simp at h⟩ (fun fr' S' qs' b1 b2=>?_);simp -implicitDefEqProofs;exact hQ _ _ _ qs' b1 (by simpa using b2) (by simp)
 obtain⟨r,S',h1,h2,h3⟩:=nY (R:=fun r S'=>S'=S∧rB r (cz l)) So rfl (main _ (fun fr S' v' qs ha hq f2=>by
  refine⟨[v'],by simp[kX,bb,hI,f2],?_⟩;obtain⟨hql,hqe⟩:=hq
  have hfree:PV.freeL qs=true:=jQ fun x hx=>by
   obtain⟨i,hi,rfl⟩:=iF hx;obtain⟨tip,e⟩:=hqe i hi (by omega);rw[e];simp[PV.free,PV.freeL,uK]
  have hcv:rB (js v' (qs.map PV.frz)) (cz l):=by
   refine⟨qs.map PV.frz,?_,by simp[hql],fun i h h'=>?_⟩
   ·rcases ha.acc with⟨rfl,rfl⟩|⟨id,_,rfl,_⟩
    ·exact kg 1
    ·refine nP (fun e he=>?_) ?_ ?_
     ·obtain⟨x,hx,rfl⟩:=List.mem_map.1 he;obtain⟨i,hi,rfl⟩:=iF hx;obtain⟨tip,e⟩:=hqe i hi (by omega);rw[e];rfl
     ·exact jQ fun x hx=>by
       obtain⟨y,hy,rfl⟩:=List.mem_map.1 hx;obtain⟨i,hi,rfl⟩:=iF hy;obtain⟨tip,e⟩:=hqe i hi (by omega);rw[e];simp[PV.frz,PV.free,PV.freeL,PV.frzL,uK,qu]
     ·rw[fS,tg];refine qi fun x hx=>?_;obtain⟨i,hi,rfl⟩:=iF hx;obtain⟨tip,e⟩:=hqe i hi (by omega);simp[e,PV.frz,PV.frzL,qu]
   ·have hi:i<qs.length:=by omega
    obtain⟨tip,e⟩:=hqe i hi h;rw[List.getElem_map,e];have:(PV.sl tip ((cz l)[i].map bJ) []).frz=.sl none ((cz l)[i].map bJ) []:=by simp[PV.frz,PV.frzL,qu]
    rw[this];exact nP (RT _) (uK _) (qu _)
  have e:ac false S S' v'=(js v' (qs.map PV.frz),S):=by
   rcases ha.acc with⟨rfl,rfl⟩|⟨id,_,rfl,_⟩
   ·exact gE ha.grows rfl
   ·rw[gE ha.grows (by simp[PV.free,hfree,PV.freeL])];simp[PV.frz,js,PV.frzL,fS]
  exact⟨congrArg Prod.snd e,by rw[show(ac kX.raw S S' (bP [v'])).1=_ from congrArg Prod.fst e];exact hcv⟩))
 subst h2;exact⟨r,h1,h3⟩
end Ps
