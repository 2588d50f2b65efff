/- ShelfM. -/
import Derived.Shelf.SlIter.Nil
import Derived.Shelf.SortM.Plain
import Derived.Shelf.SortM.SortNone
import Derived.Shelf.SlMaps.Clone
import Derived.Ground.GgzProg
import Derived.Ground.SlgmProg
import Derived.Ground.SlmcProg
import Derived.Test.YtbjefjhmnojdoaaGreatChecked
namespace Go.Proofs
open Go.Shelf
def Tryz.keys57_ren : Go.Shelf.Ren := ⟨fun | 7 => 57 | 10 => 93 | n => n, fun | 23 => 55 | 26 => 9 | 3 => 122 | 28 => 128 | 0 => 0 | 27 => 127 | 33 => 41 | 4 => 4 | n => n, fun | n => n⟩
theorem Tryz.keys57 : Go.Proofs.SlLaysZ.n7 Tryz.prog Tryz.keys57_ren := {
 mixed := by kernel_rfl
 f7 := ⟨Tryz.f57.name, by decide, Tryz.func57.trans (congrArg some (by kernel_rfl))⟩
 f10 := ⟨Tryz.f93.name, by decide, Tryz.func93.trans (congrArg some (by kernel_rfl))⟩
 t0 := Tryz.underlying0
 a0 := Tryz.isAgg0
 z0 := Tryz.sizeOf0
 v0 := Tryz.zeroValue0
 t4 := Tryz.underlying4
 a4 := Tryz.isAgg4
 z4 := Tryz.sizeOf4
 v4 := Tryz.zeroValue4
 t23 := Tryz.underlying55
 a23 := Tryz.isAgg55
 z23 := Tryz.sizeOf55
 v23 := Tryz.zeroValue55
 t26 := Tryz.underlying9
 a26 := Tryz.isAgg9
 z26 := Tryz.sizeOf9
 v26 := Tryz.zeroValue9
 t27 := Tryz.underlying127
 a27 := Tryz.isAgg127
 z27 := Tryz.sizeOf127
 v27 := Tryz.zeroValue127
 t28 := Tryz.underlying128
 a28 := Tryz.isAgg128
 z28 := Tryz.sizeOf128
 v28 := Tryz.zeroValue128
 t33 := Tryz.underlying41
 a33 := Tryz.isAgg41
 z33 := Tryz.sizeOf41
 v33 := Tryz.zeroValue41 }
def Tryz.sorted56_ren : Go.Shelf.Ren := ⟨fun | 6 => 56 | 8 => 91 | 9 => 92 | 11 => 108 | 13 => 110 | 12 => 109 | 23 => 130 | 24 => 131 | 14 => 121 | 15 => 122 | 16 => 123 | 17 => 124 | 18 => 125 | 19 => 126 | 20 => 127 | 21 => 128 | 22 => 129 | 25 => 137 | 26 => 138 | 27 => 139 | 28 => 140 | 29 => 141 | 30 => 142 | 31 => 143 | n => n, fun | 26 => 9 | 28 => 128 | 24 => 84 | 0 => 0 | 3 => 3 | 37 => 144 | 48 => 173 | 50 => 117 | 4 => 4 | 40 => 199 | 39 => 198 | 45 => 204 | 5 => 5 | 9 => 9 | 51 => 212 | 55 => 216 | 57 => 218 | 58 => 219 | 33 => 41 | n => n, fun | n => n⟩
theorem Tryz.sorted56 : Go.Proofs.SlLaysZ.n6 Tryz.prog Tryz.sorted56_ren := {
 mixed := by kernel_rfl
 f6 := ⟨Tryz.f56.name, by decide, Tryz.func56.trans (congrArg some (by kernel_rfl))⟩
 f8 := ⟨Tryz.f91.name, by decide, Tryz.func91.trans (congrArg some (by kernel_rfl))⟩
 f11 := ⟨Tryz.f108.name, by decide, Tryz.func108.trans (congrArg some (by kernel_rfl))⟩
 t0 := Tryz.underlying0
 a0 := Tryz.isAgg0
 z0 := Tryz.sizeOf0
 v0 := Tryz.zeroValue0
 t24 := Tryz.underlying84
 a24 := Tryz.isAgg84
 z24 := Tryz.sizeOf84
 v24 := Tryz.zeroValue84
 t26 := Tryz.underlying9
 a26 := Tryz.isAgg9
 z26 := Tryz.sizeOf9
 v26 := Tryz.zeroValue9
 t28 := Tryz.underlying128
 a28 := Tryz.isAgg128
 z28 := Tryz.sizeOf128
 v28 := Tryz.zeroValue128
 i26 := by kernel_rfl }
def Tryz.sort92_ren : Go.Shelf.Ren := ⟨fun | 6 => 92 | 8 => 110 | 9 => 109 | 19 => 130 | 20 => 131 | 21 => 121 | 22 => 122 | 23 => 123 | 24 => 124 | 25 => 125 | 26 => 126 | 27 => 127 | 28 => 128 | 29 => 129 | 36 => 137 | 31 => 138 | 32 => 139 | 37 => 140 | 38 => 141 | 39 => 142 | 41 => 143 | n => n, fun | 27 => 84 | 29 => 9 | 3 => 3 | 32 => 144 | 26 => 84 | 0 => 0 | 44 => 173 | 46 => 117 | 4 => 4 | 36 => 199 | 35 => 198 | 41 => 204 | 5 => 5 | 9 => 9 | 53 => 212 | 57 => 216 | 63 => 218 | 64 => 219 | n => n, fun | n => n⟩
theorem Tryz.sort92 : Go.Proofs.SlLaysM.n6 Tryz.prog Tryz.sort92_ren := {
 mixed := by kernel_rfl
 f6 := ⟨Tryz.f92.name, by decide, Tryz.func92.trans (congrArg some (by kernel_rfl))⟩
 f8 := Tryz.func110.trans (congrArg some (by kernel_rfl))
 f9 := ⟨Tryz.f109.name, by decide, Tryz.func109.trans (congrArg some (by kernel_rfl))⟩
 f19 := Tryz.func130.trans (congrArg some (by kernel_rfl))
 f20 := Tryz.func131.trans (congrArg some (by kernel_rfl))
 f21 := ⟨Tryz.f121.name, by decide, Tryz.func121.trans (congrArg some (by kernel_rfl))⟩
 f22 := ⟨Tryz.f122.name, by decide, Tryz.func122.trans (congrArg some (by kernel_rfl))⟩
 f23 := ⟨Tryz.f123.name, by decide, Tryz.func123.trans (congrArg some (by kernel_rfl))⟩
 f24 := ⟨Tryz.f124.name, by decide, Tryz.func124.trans (congrArg some (by kernel_rfl))⟩
 f25 := ⟨Tryz.f125.name, by decide, Tryz.func125.trans (congrArg some (by kernel_rfl))⟩
 f26 := ⟨Tryz.f126.name, by decide, Tryz.func126.trans (congrArg some (by kernel_rfl))⟩
 f27 := ⟨Tryz.f127.name, by decide, Tryz.func127.trans (congrArg some (by kernel_rfl))⟩
 f28 := ⟨Tryz.f128.name, by decide, Tryz.func128.trans (congrArg some (by kernel_rfl))⟩
 f29 := ⟨Tryz.f129.name, by decide, Tryz.func129.trans (congrArg some (by kernel_rfl))⟩
 f31 := Tryz.func138.trans (congrArg some (by kernel_rfl))
 f32 := Tryz.func139.trans (congrArg some (by kernel_rfl))
 f36 := ⟨Tryz.f137.name, by decide, Tryz.func137.trans (congrArg some (by kernel_rfl))⟩
 f37 := ⟨Tryz.f140.name, by decide, Tryz.func140.trans (congrArg some (by kernel_rfl))⟩
 f38 := ⟨Tryz.f141.name, by decide, Tryz.func141.trans (congrArg some (by kernel_rfl))⟩
 f39 := ⟨Tryz.f142.name, by decide, Tryz.func142.trans (congrArg some (by kernel_rfl))⟩
 f41 := ⟨Tryz.f143.name, by decide, Tryz.func143.trans (congrArg some (by kernel_rfl))⟩
 t0 := Tryz.underlying0
 a0 := Tryz.isAgg0
 z0 := Tryz.sizeOf0
 v0 := Tryz.zeroValue0
 t3 := Tryz.underlying3
 a3 := Tryz.isAgg3
 z3 := Tryz.sizeOf3
 v3 := Tryz.zeroValue3
 t4 := Tryz.underlying4
 a4 := Tryz.isAgg4
 z4 := Tryz.sizeOf4
 v4 := Tryz.zeroValue4
 t5 := Tryz.underlying5
 a5 := Tryz.isAgg5
 z5 := Tryz.sizeOf5
 v5 := Tryz.zeroValue5
 t9 := Tryz.underlying9
 a9 := Tryz.isAgg9
 z9 := Tryz.sizeOf9
 v9 := Tryz.zeroValue9
 t26 := Tryz.underlying84
 a26 := Tryz.isAgg84
 z26 := Tryz.sizeOf84
 v26 := Tryz.zeroValue84
 t27 := Tryz.underlying84
 a27 := Tryz.isAgg84
 z27 := Tryz.sizeOf84
 v27 := Tryz.zeroValue84
 t29 := Tryz.underlying9
 a29 := Tryz.isAgg9
 z29 := Tryz.sizeOf9
 v29 := Tryz.zeroValue9
 t32 := Tryz.underlying144
 a32 := Tryz.isAgg144
 z32 := Tryz.sizeOf144
 v32 := Tryz.zeroValue144
 t35 := Tryz.underlying198
 a35 := Tryz.isAgg198
 z35 := Tryz.sizeOf198
 v35 := Tryz.zeroValue198
 t36 := Tryz.underlying199
 a36 := Tryz.isAgg199
 z36 := Tryz.sizeOf199
 v36 := Tryz.zeroValue199
 t41 := Tryz.underlying204
 a41 := Tryz.isAgg204
 z41 := Tryz.sizeOf204
 v41 := Tryz.zeroValue204
 t44 := Tryz.underlying173
 a44 := Tryz.isAgg173
 z44 := Tryz.sizeOf173
 v44 := Tryz.zeroValue173
 t46 := Tryz.underlying117
 a46 := Tryz.isAgg117
 z46 := Tryz.sizeOf117
 v46 := Tryz.zeroValue117
 t53 := Tryz.underlying212
 a53 := Tryz.isAgg212
 z53 := Tryz.sizeOf212
 v53 := Tryz.zeroValue212
 t57 := Tryz.underlying216
 a57 := Tryz.isAgg216
 z57 := Tryz.sizeOf216
 v57 := Tryz.zeroValue216
 t63 := Tryz.underlying218
 a63 := Tryz.isAgg218
 z63 := Tryz.sizeOf218
 v63 := Tryz.zeroValue218
 t64 := Tryz.underlying219
 a64 := Tryz.isAgg219
 z64 := Tryz.sizeOf219
 v64 := Tryz.zeroValue219 }
def Tryz.cloneW_ren : Go.Shelf.Ren := ⟨fun | 5 => 58 | 7 => 94 | n => n, fun | 23 => 55 | 25 => 9 | 3 => 122 | 4 => 4 | 20 => 20 | n => n, fun | n => n⟩
theorem Tryz.cloneW : Go.Proofs.SlLaysW.n5 Tryz.prog Tryz.cloneW_ren := {
 mixed := by kernel_rfl
 f5 := ⟨Tryz.f58.name, by decide, Tryz.func58.trans (congrArg some (by kernel_rfl))⟩
 f7 := Tryz.func94.trans (congrArg some (by kernel_rfl))
 t4 := Tryz.underlying4
 a4 := Tryz.isAgg4
 z4 := Tryz.sizeOf4
 v4 := Tryz.zeroValue4
 t20 := Tryz.underlying20
 a20 := Tryz.isAgg20
 z20 := Tryz.sizeOf20
 v20 := Tryz.zeroValue20
 t23 := Tryz.underlying55
 a23 := Tryz.isAgg55
 z23 := Tryz.sizeOf55
 v23 := Tryz.zeroValue55 }
end Go.Proofs

namespace Go.Proofs
open Go.RowKit Go.Maps Go.Sort Go.Shelf

theorem Tryz.sorts56 (m : Nat) : AnyZ.SortsIn Tryz.prog Tryz.sorted56_ren Fence.wide m :=
  ⟨fun blk off cap ss W hH hblk hsz => callsIn_wide.2 (AnyM.slices_Sort_string Tryz.sort92 blk off cap ss W hH hblk hsz),
   fun p cap W => callsIn_wide.2 (AnyM.slices_Sort_string_none Tryz.sort92 p cap W)⟩


theorem Tryz.maps_clone (b : Nat) (es : Array MapEntry) (clock : Nat) (w : World) (hb : w.heap[b]? = some (.map es clock)) :
  Calls Tryz.prog 58 #[.map (some b)] w fun e w' => e = .returned (.map (some w.heap.size)) ∧ w' = w.alloc (.map es clock) :=
 AnyW.maps_Clone Tryz.cloneW b es clock w hb

theorem Tryz.sorted_keys (R : Value → Option (DataW Unit × List MemPlace)) (bx b nn : Nat) (D0 : DataW Unit) (w : World) (hbx : bx < w.heap.size) (hm : w.cell? ⟨bx, 0, none⟩ = some (.map (some b))) (hown : w.ownsMap Tryz.prog 9 R b nn D0) (hmax : Maps.size D0 ≤ 1048576) :
  Calls Tryz.prog 56 #[.func (.func 93) #[] #[.pointer (some ⟨bx, 0, none⟩)]] w fun e w' => ∃ (v : Value) (ss : List (List UInt8)), e = .returned v ∧ ss.Perm (strKeys D0) ∧
   w'.ownsRow w.heap.size 9 1 v ss.length ((ss.mergeSort (fun x y => decide (x ≤ y))).map encStr) ∧ (v = .slice none 0 0 ↔ ss = []) ∧ Below w.heap.size w w' := by
 have hseq : SeqGives Fence.wide 2 Tryz.prog 93 #[.pointer (some ⟨bx, 0, none⟩)] encStr (fun ss => ss.Perm (strKeys D0)) (Maps.size D0) w :=
  AnyZ.keys_gives (ρ := Tryz.keys57_ren) { Tryz.keys57 with } Fence.wide _ trivial rfl (by omega) bx b nn D0 _ hbx hm hown
 refine (callsIn_wide (n := 5)).1 ?_
 exact AnyZ.sorted_in Tryz.sorted56 Fence.wide 5 trivial trivial trivial trivial rfl (by omega) (Tryz.sorts56 _) (enters_of Tryz.func92 (by kernel_rfl) rfl) 93 #[.pointer (some ⟨bx, 0, none⟩)] trivial (enters_of Tryz.func93 (by kernel_rfl) rfl) _ _ (Nat.le_trans hmax (by decide)) (by omega) _ hseq
end Go.Proofs
