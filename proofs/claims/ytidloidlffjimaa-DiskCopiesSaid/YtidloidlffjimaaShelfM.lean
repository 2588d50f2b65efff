/- ShelfM. -/
import Derived.Shelf.SlIter.Nil
import Derived.Shelf.SortM.Plain
import Derived.Shelf.SortM.SortNone
import Derived.Shelf.SlMaps.Clone
import Derived.Ground.GgzProg
import Derived.Ground.SlgmProg
import Derived.Ground.SlmcProg
import Derived.Test.YtidloidlffjimaaChecked
namespace Go.Proofs
open Go.Shelf
def Try.keys37_ren : Go.Shelf.Ren := ⟨fun | 7 => 37 | 10 => 47 | n => n, fun | 23 => 47 | 26 => 9 | 3 => 65 | 28 => 85 | 0 => 0 | 27 => 84 | 33 => 87 | 4 => 4 | n => n, fun | n => n⟩
theorem Try.keys37 : Go.Proofs.SlLaysZ.n7 Try.prog Try.keys37_ren := {
 mixed := by kernel_rfl
 f7 := ⟨Try.f37.name, by decide, Try.func37.trans (congrArg some (by kernel_rfl))⟩
 f10 := ⟨Try.f47.name, by decide, Try.func47.trans (congrArg some (by kernel_rfl))⟩
 t0 := Try.underlying0
 a0 := Try.isAgg0
 z0 := Try.sizeOf0
 v0 := Try.zeroValue0
 t4 := Try.underlying4
 a4 := Try.isAgg4
 z4 := Try.sizeOf4
 v4 := Try.zeroValue4
 t23 := Try.underlying47
 a23 := Try.isAgg47
 z23 := Try.sizeOf47
 v23 := Try.zeroValue47
 t26 := Try.underlying9
 a26 := Try.isAgg9
 z26 := Try.sizeOf9
 v26 := Try.zeroValue9
 t27 := Try.underlying84
 a27 := Try.isAgg84
 z27 := Try.sizeOf84
 v27 := Try.zeroValue84
 t28 := Try.underlying85
 a28 := Try.isAgg85
 z28 := Try.sizeOf85
 v28 := Try.zeroValue85
 t33 := Try.underlying87
 a33 := Try.isAgg87
 z33 := Try.sizeOf87
 v33 := Try.zeroValue87 }
def Try.sorted36_ren : Go.Shelf.Ren := ⟨fun | 6 => 36 | 8 => 45 | 9 => 46 | 11 => 50 | 13 => 52 | 12 => 51 | 23 => 62 | 24 => 63 | 14 => 53 | 15 => 54 | 16 => 55 | 17 => 56 | 18 => 57 | 19 => 58 | 20 => 59 | 21 => 60 | 22 => 61 | 25 => 64 | 26 => 65 | 27 => 66 | 28 => 67 | 29 => 68 | 30 => 69 | 31 => 70 | n => n, fun | 26 => 9 | 28 => 85 | 24 => 73 | 0 => 0 | 3 => 3 | 37 => 105 | 48 => 116 | 50 => 81 | 4 => 4 | 40 => 108 | 39 => 107 | 45 => 113 | 5 => 5 | 9 => 9 | 51 => 118 | 55 => 122 | 57 => 124 | 58 => 125 | 33 => 87 | n => n, fun | n => n⟩
theorem Try.sorted36 : Go.Proofs.SlLaysZ.n6 Try.prog Try.sorted36_ren := {
 mixed := by kernel_rfl
 f6 := ⟨Try.f36.name, by decide, Try.func36.trans (congrArg some (by kernel_rfl))⟩
 f8 := ⟨Try.f45.name, by decide, Try.func45.trans (congrArg some (by kernel_rfl))⟩
 f11 := ⟨Try.f50.name, by decide, Try.func50.trans (congrArg some (by kernel_rfl))⟩
 t0 := Try.underlying0
 a0 := Try.isAgg0
 z0 := Try.sizeOf0
 v0 := Try.zeroValue0
 t24 := Try.underlying73
 a24 := Try.isAgg73
 z24 := Try.sizeOf73
 v24 := Try.zeroValue73
 t26 := Try.underlying9
 a26 := Try.isAgg9
 z26 := Try.sizeOf9
 v26 := Try.zeroValue9
 t28 := Try.underlying85
 a28 := Try.isAgg85
 z28 := Try.sizeOf85
 v28 := Try.zeroValue85
 i26 := by kernel_rfl }
def Try.sort46_ren : Go.Shelf.Ren := ⟨fun | 6 => 46 | 8 => 52 | 9 => 51 | 19 => 62 | 20 => 63 | 21 => 53 | 22 => 54 | 23 => 55 | 24 => 56 | 25 => 57 | 26 => 58 | 27 => 59 | 28 => 60 | 29 => 61 | 36 => 64 | 31 => 65 | 32 => 66 | 37 => 67 | 38 => 68 | 39 => 69 | 41 => 70 | n => n, fun | 27 => 73 | 29 => 9 | 3 => 3 | 32 => 105 | 26 => 73 | 0 => 0 | 44 => 116 | 46 => 81 | 4 => 4 | 36 => 108 | 35 => 107 | 41 => 113 | 5 => 5 | 9 => 9 | 53 => 118 | 57 => 122 | 63 => 124 | 64 => 125 | n => n, fun | n => n⟩
theorem Try.sort46 : Go.Proofs.SlLaysM.n6 Try.prog Try.sort46_ren := {
 mixed := by kernel_rfl
 f6 := ⟨Try.f46.name, by decide, Try.func46.trans (congrArg some (by kernel_rfl))⟩
 f8 := Try.func52.trans (congrArg some (by kernel_rfl))
 f9 := ⟨Try.f51.name, by decide, Try.func51.trans (congrArg some (by kernel_rfl))⟩
 f19 := Try.func62.trans (congrArg some (by kernel_rfl))
 f20 := Try.func63.trans (congrArg some (by kernel_rfl))
 f21 := ⟨Try.f53.name, by decide, Try.func53.trans (congrArg some (by kernel_rfl))⟩
 f22 := ⟨Try.f54.name, by decide, Try.func54.trans (congrArg some (by kernel_rfl))⟩
 f23 := ⟨Try.f55.name, by decide, Try.func55.trans (congrArg some (by kernel_rfl))⟩
 f24 := ⟨Try.f56.name, by decide, Try.func56.trans (congrArg some (by kernel_rfl))⟩
 f25 := ⟨Try.f57.name, by decide, Try.func57.trans (congrArg some (by kernel_rfl))⟩
 f26 := ⟨Try.f58.name, by decide, Try.func58.trans (congrArg some (by kernel_rfl))⟩
 f27 := ⟨Try.f59.name, by decide, Try.func59.trans (congrArg some (by kernel_rfl))⟩
 f28 := ⟨Try.f60.name, by decide, Try.func60.trans (congrArg some (by kernel_rfl))⟩
 f29 := ⟨Try.f61.name, by decide, Try.func61.trans (congrArg some (by kernel_rfl))⟩
 f31 := Try.func65.trans (congrArg some (by kernel_rfl))
 f32 := Try.func66.trans (congrArg some (by kernel_rfl))
 f36 := ⟨Try.f64.name, by decide, Try.func64.trans (congrArg some (by kernel_rfl))⟩
 f37 := ⟨Try.f67.name, by decide, Try.func67.trans (congrArg some (by kernel_rfl))⟩
 f38 := ⟨Try.f68.name, by decide, Try.func68.trans (congrArg some (by kernel_rfl))⟩
 f39 := ⟨Try.f69.name, by decide, Try.func69.trans (congrArg some (by kernel_rfl))⟩
 f41 := ⟨Try.f70.name, by decide, Try.func70.trans (congrArg some (by kernel_rfl))⟩
 t0 := Try.underlying0
 a0 := Try.isAgg0
 z0 := Try.sizeOf0
 v0 := Try.zeroValue0
 t3 := Try.underlying3
 a3 := Try.isAgg3
 z3 := Try.sizeOf3
 v3 := Try.zeroValue3
 t4 := Try.underlying4
 a4 := Try.isAgg4
 z4 := Try.sizeOf4
 v4 := Try.zeroValue4
 t5 := Try.underlying5
 a5 := Try.isAgg5
 z5 := Try.sizeOf5
 v5 := Try.zeroValue5
 t9 := Try.underlying9
 a9 := Try.isAgg9
 z9 := Try.sizeOf9
 v9 := Try.zeroValue9
 t26 := Try.underlying73
 a26 := Try.isAgg73
 z26 := Try.sizeOf73
 v26 := Try.zeroValue73
 t27 := Try.underlying73
 a27 := Try.isAgg73
 z27 := Try.sizeOf73
 v27 := Try.zeroValue73
 t29 := Try.underlying9
 a29 := Try.isAgg9
 z29 := Try.sizeOf9
 v29 := Try.zeroValue9
 t32 := Try.underlying105
 a32 := Try.isAgg105
 z32 := Try.sizeOf105
 v32 := Try.zeroValue105
 t35 := Try.underlying107
 a35 := Try.isAgg107
 z35 := Try.sizeOf107
 v35 := Try.zeroValue107
 t36 := Try.underlying108
 a36 := Try.isAgg108
 z36 := Try.sizeOf108
 v36 := Try.zeroValue108
 t41 := Try.underlying113
 a41 := Try.isAgg113
 z41 := Try.sizeOf113
 v41 := Try.zeroValue113
 t44 := Try.underlying116
 a44 := Try.isAgg116
 z44 := Try.sizeOf116
 v44 := Try.zeroValue116
 t46 := Try.underlying81
 a46 := Try.isAgg81
 z46 := Try.sizeOf81
 v46 := Try.zeroValue81
 t53 := Try.underlying118
 a53 := Try.isAgg118
 z53 := Try.sizeOf118
 v53 := Try.zeroValue118
 t57 := Try.underlying122
 a57 := Try.isAgg122
 z57 := Try.sizeOf122
 v57 := Try.zeroValue122
 t63 := Try.underlying124
 a63 := Try.isAgg124
 z63 := Try.sizeOf124
 v63 := Try.zeroValue124
 t64 := Try.underlying125
 a64 := Try.isAgg125
 z64 := Try.sizeOf125
 v64 := Try.zeroValue125 }
def Try.cloneW_ren : Go.Shelf.Ren := ⟨fun | 5 => 34 | 7 => 44 | n => n, fun | 23 => 47 | 25 => 9 | 3 => 65 | 4 => 4 | 20 => 20 | n => n, fun | n => n⟩
theorem Try.cloneW : Go.Proofs.SlLaysW.n5 Try.prog Try.cloneW_ren := {
 mixed := by kernel_rfl
 f5 := ⟨Try.f34.name, by decide, Try.func34.trans (congrArg some (by kernel_rfl))⟩
 f7 := Try.func44.trans (congrArg some (by kernel_rfl))
 t4 := Try.underlying4
 a4 := Try.isAgg4
 z4 := Try.sizeOf4
 v4 := Try.zeroValue4
 t20 := Try.underlying20
 a20 := Try.isAgg20
 z20 := Try.sizeOf20
 v20 := Try.zeroValue20
 t23 := Try.underlying47
 a23 := Try.isAgg47
 z23 := Try.sizeOf47
 v23 := Try.zeroValue47 }
end Go.Proofs

namespace Go.Proofs
open Go.RowKit Go.Maps Go.Sort Go.Shelf

theorem Try.sorts36 (m : Nat) : AnyZ.SortsIn Try.prog Try.sorted36_ren Fence.wide m :=
  ⟨fun blk off cap ss W hH hblk hsz => callsIn_wide.2 (AnyM.slices_Sort_string Try.sort46 blk off cap ss W hH hblk hsz),
   fun p cap W => callsIn_wide.2 (AnyM.slices_Sort_string_none Try.sort46 p cap W)⟩


theorem Try.maps_clone (b : Nat) (es : Array MapEntry) (clock : Nat) (w : World) (hb : w.heap[b]? = some (.map es clock)) :
  Calls Try.prog 34 #[.map (some b)] w fun e w' => e = .returned (.map (some w.heap.size)) ∧ w' = w.alloc (.map es clock) :=
 AnyW.maps_Clone Try.cloneW b es clock w hb

theorem Try.sorted_keys (R : Value → Option (DataW Unit × List MemPlace)) (bx b nn : Nat) (D0 : DataW Unit) (w : World) (hbx : bx < w.heap.size) (hm : w.cell? ⟨bx, 0, none⟩ = some (.map (some b))) (hown : w.ownsMap Try.prog 9 R b nn D0) (hmax : Maps.size D0 ≤ 1048576) :
  Calls Try.prog 36 #[.func (.func 47) #[] #[.pointer (some ⟨bx, 0, none⟩)]] w fun e w' => ∃ (v : Value) (ss : List (List UInt8)), e = .returned v ∧ ss.Perm (strKeys D0) ∧
   w'.ownsRow w.heap.size 9 1 v ss.length ((ss.mergeSort (fun x y => decide (x ≤ y))).map encStr) ∧ (v = .slice none 0 0 ↔ ss = []) ∧ Below w.heap.size w w' := by
 have hseq : SeqGives Fence.wide 2 Try.prog 47 #[.pointer (some ⟨bx, 0, none⟩)] encStr (fun ss => ss.Perm (strKeys D0)) (Maps.size D0) w :=
  AnyZ.keys_gives (ρ := Try.keys37_ren) { Try.keys37 with } Fence.wide _ trivial rfl (by omega) bx b nn D0 _ hbx hm hown
 refine (callsIn_wide (n := 5)).1 ?_
 exact AnyZ.sorted_in Try.sorted36 Fence.wide 5 trivial trivial trivial trivial rfl (by omega) (Try.sorts36 _) (enters_of Try.func46 (by kernel_rfl) rfl) 47 #[.pointer (some ⟨bx, 0, none⟩)] trivial (enters_of Try.func47 (by kernel_rfl) rfl) _ _ (Nat.le_trans hmax (by decide)) (by omega) _ hseq
end Go.Proofs
