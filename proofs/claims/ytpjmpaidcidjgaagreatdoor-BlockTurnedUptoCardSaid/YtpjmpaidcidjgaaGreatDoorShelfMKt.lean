/- ShelfM. -/
import Derived.Shelf.SlIter.Nil
import Derived.Shelf.SortM.Plain
import Derived.Shelf.SortM.SortNone
import Derived.Shelf.SlMaps.Clone
import Derived.Ground.GgzProg
import Derived.Ground.SlgmProg
import Derived.Ground.SlmcProg
import Derived.Test.YtpjmpaidcidjgaaGreatDoorChecked
namespace Go.Proofs
open Go.Shelf
def Tryz.keys83_ren : Go.Shelf.Ren := ⟨fun | 7 => 83 | 10 => 105 | n => n, fun | 23 => 107 | 26 => 9 | 3 => 3 | 28 => 157 | 0 => 0 | 27 => 156 | 33 => 150 | 4 => 4 | n => n, fun | n => n⟩
theorem Tryz.keys83 : Go.Proofs.SlLaysZ.n7 Tryz.prog Tryz.keys83_ren := {
 mixed := by kernel_rfl
 f7 := ⟨Tryz.f83.name, by decide, Tryz.func83.trans (congrArg some (by kernel_rfl))⟩
 f10 := ⟨Tryz.f105.name, by decide, Tryz.func105.trans (congrArg some (by kernel_rfl))⟩
 t0 := Tryz.underlying0
 a0 := Tryz.isAgg0
 z0 := Tryz.sizeOf0
 v0 := Tryz.zeroValue0
 t4 := Tryz.underlying4
 a4 := Tryz.isAgg4
 z4 := Tryz.sizeOf4
 v4 := Tryz.zeroValue4
 t23 := Tryz.underlying107
 a23 := Tryz.isAgg107
 z23 := Tryz.sizeOf107
 v23 := Tryz.zeroValue107
 t26 := Tryz.underlying9
 a26 := Tryz.isAgg9
 z26 := Tryz.sizeOf9
 v26 := Tryz.zeroValue9
 t27 := Tryz.underlying156
 a27 := Tryz.isAgg156
 z27 := Tryz.sizeOf156
 v27 := Tryz.zeroValue156
 t28 := Tryz.underlying157
 a28 := Tryz.isAgg157
 z28 := Tryz.sizeOf157
 v28 := Tryz.zeroValue157
 t33 := Tryz.underlying150
 a33 := Tryz.isAgg150
 z33 := Tryz.sizeOf150
 v33 := Tryz.zeroValue150 }
def Tryz.sorted82_ren : Go.Shelf.Ren := ⟨fun | 6 => 82 | 8 => 103 | 9 => 104 | 11 => 114 | 13 => 116 | 12 => 115 | 23 => 132 | 24 => 108 | 14 => 123 | 15 => 124 | 16 => 125 | 17 => 126 | 18 => 127 | 19 => 128 | 20 => 129 | 21 => 130 | 22 => 131 | 25 => 134 | 26 => 135 | 27 => 136 | 28 => 137 | 29 => 138 | 30 => 102 | 31 => 139 | n => n, fun | 26 => 9 | 28 => 157 | 24 => 106 | 0 => 0 | 3 => 3 | 37 => 41 | 48 => 40 | 50 => 117 | 4 => 4 | 40 => 206 | 39 => 205 | 45 => 211 | 5 => 5 | 9 => 9 | 51 => 215 | 55 => 218 | 57 => 220 | 58 => 221 | 33 => 150 | n => n, fun | n => n⟩
theorem Tryz.sorted82 : Go.Proofs.SlLaysZ.n6 Tryz.prog Tryz.sorted82_ren := {
 mixed := by kernel_rfl
 f6 := ⟨Tryz.f82.name, by decide, Tryz.func82.trans (congrArg some (by kernel_rfl))⟩
 f8 := ⟨Tryz.f103.name, by decide, Tryz.func103.trans (congrArg some (by kernel_rfl))⟩
 f11 := ⟨Tryz.f114.name, by decide, Tryz.func114.trans (congrArg some (by kernel_rfl))⟩
 t0 := Tryz.underlying0
 a0 := Tryz.isAgg0
 z0 := Tryz.sizeOf0
 v0 := Tryz.zeroValue0
 t24 := Tryz.underlying106
 a24 := Tryz.isAgg106
 z24 := Tryz.sizeOf106
 v24 := Tryz.zeroValue106
 t26 := Tryz.underlying9
 a26 := Tryz.isAgg9
 z26 := Tryz.sizeOf9
 v26 := Tryz.zeroValue9
 t28 := Tryz.underlying157
 a28 := Tryz.isAgg157
 z28 := Tryz.sizeOf157
 v28 := Tryz.zeroValue157
 i26 := by kernel_rfl }
def Tryz.sort104_ren : Go.Shelf.Ren := ⟨fun | 6 => 104 | 8 => 116 | 9 => 115 | 19 => 132 | 20 => 108 | 21 => 123 | 22 => 124 | 23 => 125 | 24 => 126 | 25 => 127 | 26 => 128 | 27 => 129 | 28 => 130 | 29 => 131 | 36 => 134 | 31 => 135 | 32 => 136 | 37 => 137 | 38 => 138 | 39 => 102 | 41 => 139 | n => n, fun | 27 => 106 | 29 => 9 | 3 => 3 | 32 => 41 | 26 => 106 | 0 => 0 | 44 => 40 | 46 => 117 | 4 => 4 | 36 => 206 | 35 => 205 | 41 => 211 | 5 => 5 | 9 => 9 | 53 => 215 | 57 => 218 | 63 => 220 | 64 => 221 | n => n, fun | n => n⟩
theorem Tryz.sort104 : Go.Proofs.SlLaysM.n6 Tryz.prog Tryz.sort104_ren := {
 mixed := by kernel_rfl
 f6 := ⟨Tryz.f104.name, by decide, Tryz.func104.trans (congrArg some (by kernel_rfl))⟩
 f8 := Tryz.func116.trans (congrArg some (by kernel_rfl))
 f9 := ⟨Tryz.f115.name, by decide, Tryz.func115.trans (congrArg some (by kernel_rfl))⟩
 f19 := Tryz.func132.trans (congrArg some (by kernel_rfl))
 f20 := Tryz.func108.trans (congrArg some (by kernel_rfl))
 f21 := ⟨Tryz.f123.name, by decide, Tryz.func123.trans (congrArg some (by kernel_rfl))⟩
 f22 := ⟨Tryz.f124.name, by decide, Tryz.func124.trans (congrArg some (by kernel_rfl))⟩
 f23 := ⟨Tryz.f125.name, by decide, Tryz.func125.trans (congrArg some (by kernel_rfl))⟩
 f24 := ⟨Tryz.f126.name, by decide, Tryz.func126.trans (congrArg some (by kernel_rfl))⟩
 f25 := ⟨Tryz.f127.name, by decide, Tryz.func127.trans (congrArg some (by kernel_rfl))⟩
 f26 := ⟨Tryz.f128.name, by decide, Tryz.func128.trans (congrArg some (by kernel_rfl))⟩
 f27 := ⟨Tryz.f129.name, by decide, Tryz.func129.trans (congrArg some (by kernel_rfl))⟩
 f28 := ⟨Tryz.f130.name, by decide, Tryz.func130.trans (congrArg some (by kernel_rfl))⟩
 f29 := ⟨Tryz.f131.name, by decide, Tryz.func131.trans (congrArg some (by kernel_rfl))⟩
 f31 := Tryz.func135.trans (congrArg some (by kernel_rfl))
 f32 := Tryz.func136.trans (congrArg some (by kernel_rfl))
 f36 := ⟨Tryz.f134.name, by decide, Tryz.func134.trans (congrArg some (by kernel_rfl))⟩
 f37 := ⟨Tryz.f137.name, by decide, Tryz.func137.trans (congrArg some (by kernel_rfl))⟩
 f38 := ⟨Tryz.f138.name, by decide, Tryz.func138.trans (congrArg some (by kernel_rfl))⟩
 f39 := ⟨Tryz.f102.name, by decide, Tryz.func102.trans (congrArg some (by kernel_rfl))⟩
 f41 := ⟨Tryz.f139.name, by decide, Tryz.func139.trans (congrArg some (by kernel_rfl))⟩
 t0 := Tryz.underlying0
 a0 := Tryz.isAgg0
 z0 := Tryz.sizeOf0
 v0 := Tryz.zeroValue0
 t3 := Tryz.underlying3
 a3 := Tryz.isAgg3
 z3 := Tryz.sizeOf3
 v3 := Tryz.zeroValue3
 t4 := Tryz.underlying4
 a4 := Tryz.isAgg4
 z4 := Tryz.sizeOf4
 v4 := Tryz.zeroValue4
 t5 := Tryz.underlying5
 a5 := Tryz.isAgg5
 z5 := Tryz.sizeOf5
 v5 := Tryz.zeroValue5
 t9 := Tryz.underlying9
 a9 := Tryz.isAgg9
 z9 := Tryz.sizeOf9
 v9 := Tryz.zeroValue9
 t26 := Tryz.underlying106
 a26 := Tryz.isAgg106
 z26 := Tryz.sizeOf106
 v26 := Tryz.zeroValue106
 t27 := Tryz.underlying106
 a27 := Tryz.isAgg106
 z27 := Tryz.sizeOf106
 v27 := Tryz.zeroValue106
 t29 := Tryz.underlying9
 a29 := Tryz.isAgg9
 z29 := Tryz.sizeOf9
 v29 := Tryz.zeroValue9
 t32 := Tryz.underlying41
 a32 := Tryz.isAgg41
 z32 := Tryz.sizeOf41
 v32 := Tryz.zeroValue41
 t35 := Tryz.underlying205
 a35 := Tryz.isAgg205
 z35 := Tryz.sizeOf205
 v35 := Tryz.zeroValue205
 t36 := Tryz.underlying206
 a36 := Tryz.isAgg206
 z36 := Tryz.sizeOf206
 v36 := Tryz.zeroValue206
 t41 := Tryz.underlying211
 a41 := Tryz.isAgg211
 z41 := Tryz.sizeOf211
 v41 := Tryz.zeroValue211
 t44 := Tryz.underlying40
 a44 := Tryz.isAgg40
 z44 := Tryz.sizeOf40
 v44 := Tryz.zeroValue40
 t46 := Tryz.underlying117
 a46 := Tryz.isAgg117
 z46 := Tryz.sizeOf117
 v46 := Tryz.zeroValue117
 t53 := Tryz.underlying215
 a53 := Tryz.isAgg215
 z53 := Tryz.sizeOf215
 v53 := Tryz.zeroValue215
 t57 := Tryz.underlying218
 a57 := Tryz.isAgg218
 z57 := Tryz.sizeOf218
 v57 := Tryz.zeroValue218
 t63 := Tryz.underlying220
 a63 := Tryz.isAgg220
 z63 := Tryz.sizeOf220
 v63 := Tryz.zeroValue220
 t64 := Tryz.underlying221
 a64 := Tryz.isAgg221
 z64 := Tryz.sizeOf221
 v64 := Tryz.zeroValue221 }
end Go.Proofs

namespace Go.Proofs
open Go.RowKit Go.Maps Go.Sort Go.Shelf

theorem Tryz.sorts82 (m : Nat) : AnyZ.SortsIn Tryz.prog Tryz.sorted82_ren Fence.wide m :=
  ⟨fun blk off cap ss W hH hblk hsz => callsIn_wide.2 (AnyM.slices_Sort_string Tryz.sort104 blk off cap ss W hH hblk hsz),
   fun p cap W => callsIn_wide.2 (AnyM.slices_Sort_string_none Tryz.sort104 p cap W)⟩


theorem Tryz.sorted_keys (R : Value → Option (DataW Unit × List MemPlace)) (bx b nn : Nat) (D0 : DataW Unit) (w : World) (hbx : bx < w.heap.size) (hm : w.cell? ⟨bx, 0, none⟩ = some (.map (some b))) (hown : w.ownsMap Tryz.prog 9 R b nn D0) (hmax : Maps.size D0 ≤ 1048576) :
  Calls Tryz.prog 82 #[.func (.func 105) #[] #[.pointer (some ⟨bx, 0, none⟩)]] w fun e w' => ∃ (v : Value) (ss : List (List UInt8)), e = .returned v ∧ ss.Perm (strKeys D0) ∧
   w'.ownsRow w.heap.size 9 1 v ss.length ((ss.mergeSort (fun x y => decide (x ≤ y))).map encStr) ∧ (v = .slice none 0 0 ↔ ss = []) ∧ Below w.heap.size w w' := by
 have hseq : SeqGives Fence.wide 2 Tryz.prog 105 #[.pointer (some ⟨bx, 0, none⟩)] encStr (fun ss => ss.Perm (strKeys D0)) (Maps.size D0) w :=
  AnyZ.keys_gives (ρ := Tryz.keys83_ren) { Tryz.keys83 with } Fence.wide _ trivial rfl (by omega) bx b nn D0 _ hbx hm hown
 refine (callsIn_wide (n := 5)).1 ?_
 exact AnyZ.sorted_in Tryz.sorted82 Fence.wide 5 trivial trivial trivial trivial rfl (by omega) (Tryz.sorts82 _) (enters_of Tryz.func104 (by kernel_rfl) rfl) 105 #[.pointer (some ⟨bx, 0, none⟩)] trivial (enters_of Tryz.func105 (by kernel_rfl) rfl) _ _ (Nat.le_trans hmax (by decide)) (by omega) _ hseq
end Go.Proofs
