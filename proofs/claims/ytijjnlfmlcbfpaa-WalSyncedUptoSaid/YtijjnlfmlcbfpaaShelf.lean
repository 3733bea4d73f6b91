/- The shelf's contracts of maps.Keys, slices.Sorted and slices.Sort, laid at this program's numbers (printed by shelf.py). -/
import Derived.Shelf.SlIterI.Nil
import Derived.Shelf.SortM.Plain
import Derived.Shelf.SortM.SortNone
import Derived.Test.YtijjnlfmlcbfpaaProg
set_option linter.unusedVariables false
namespace Go.Proofs.Ytijjnlfmlcbfpaa
open Go Go.Proofs Go.RowKit Go.Maps Go.Sort Go.Shelf
def TrykeysD_ren : Go.Shelf.Ren := ⟨fun | 7 => 98 | 10 => 118 | n => n, fun | 23 => 95 | 26 => 3 | 3 => 28 | 28 => 150 | 0 => 0 | 27 => 149 | 33 => 154 | 4 => 4 | n => n, fun | n => n⟩
theorem TrykeysD : SlLaysZI.n7 Try.prog TrykeysD_ren where
  mixed := by kernel_rfl
  f7 := ⟨Try.f98.name, by kernel_rfl, Try.func98.trans (congrArg some (by kernel_rfl))⟩
  f10 := ⟨Try.f118.name, by kernel_rfl, Try.func118.trans (congrArg some (by kernel_rfl))⟩
  t0 := Try.underlying0
  a0 := Try.isAgg0
  z0 := Try.sizeOf0
  v0 := Try.zeroValue0
  t4 := Try.underlying4
  a4 := Try.isAgg4
  z4 := Try.sizeOf4
  v4 := Try.zeroValue4
  t23 := Try.underlying95
  a23 := Try.isAgg95
  z23 := Try.sizeOf95
  v23 := Try.zeroValue95
  t26 := Try.underlying3
  a26 := Try.isAgg3
  z26 := Try.sizeOf3
  v26 := Try.zeroValue3
  t27 := Try.underlying149
  a27 := Try.isAgg149
  z27 := Try.sizeOf149
  v27 := Try.zeroValue149
  t28 := Try.underlying150
  a28 := Try.isAgg150
  z28 := Try.sizeOf150
  v28 := Try.zeroValue150
  t33 := Try.underlying154
  a33 := Try.isAgg154
  z33 := Try.sizeOf154
  v33 := Try.zeroValue154
def TrysortedD_ren : Go.Shelf.Ren := ⟨fun | 6 => 92 | 8 => 114 | 9 => 115 | 11 => 122 | 13 => 124 | 12 => 123 | 23 => 136 | 24 => 137 | 14 => 127 | 15 => 128 | 16 => 129 | 17 => 130 | 18 => 131 | 19 => 132 | 20 => 133 | 21 => 134 | 22 => 135 | 25 => 138 | 26 => 139 | 27 => 140 | 28 => 141 | 29 => 142 | 30 => 143 | 31 => 144 | n => n, fun | 26 => 3 | 28 => 150 | 24 => 51 | 0 => 0 | 3 => 3 | 37 => 71 | 48 => 63 | 50 => 34 | 4 => 4 | 40 => 180 | 39 => 179 | 45 => 185 | 5 => 5 | 9 => 9 | 51 => 189 | 55 => 193 | 57 => 195 | 58 => 196 | 33 => 154 | n => n, fun | n => n⟩
theorem TrysortedD : SlLaysZI.n6 Try.prog TrysortedD_ren where
  mixed := by kernel_rfl
  f6 := ⟨Try.f92.name, by kernel_rfl, Try.func92.trans (congrArg some (by kernel_rfl))⟩
  f8 := ⟨Try.f114.name, by kernel_rfl, Try.func114.trans (congrArg some (by kernel_rfl))⟩
  f11 := ⟨Try.f122.name, by kernel_rfl, Try.func122.trans (congrArg some (by kernel_rfl))⟩
  t0 := Try.underlying0
  a0 := Try.isAgg0
  z0 := Try.sizeOf0
  v0 := Try.zeroValue0
  t24 := Try.underlying51
  a24 := Try.isAgg51
  z24 := Try.sizeOf51
  v24 := Try.zeroValue51
  t26 := Try.underlying3
  a26 := Try.isAgg3
  z26 := Try.sizeOf3
  v26 := Try.zeroValue3
  t28 := Try.underlying150
  a28 := Try.isAgg150
  z28 := Try.sizeOf150
  v28 := Try.zeroValue150
  i26 := by kernel_rfl
def TrysortD_ren : Go.Shelf.Ren := ⟨fun | 5 => 115 | 8 => 124 | 7 => 123 | 19 => 136 | 20 => 137 | 10 => 127 | 11 => 128 | 12 => 129 | 13 => 130 | 14 => 131 | 15 => 132 | 16 => 133 | 17 => 134 | 18 => 135 | 30 => 138 | 31 => 139 | 32 => 140 | 33 => 141 | 34 => 142 | 35 => 143 | 40 => 144 | n => n, fun | 23 => 51 | 25 => 3 | 3 => 3 | 32 => 71 | 22 => 51 | 0 => 0 | 44 => 63 | 46 => 34 | 4 => 4 | 36 => 180 | 35 => 179 | 41 => 185 | 5 => 5 | 9 => 9 | 53 => 189 | 57 => 193 | 63 => 195 | 64 => 196 | n => n, fun | n => n⟩
theorem TrysortD : SlLaysM.n5 Try.prog TrysortD_ren where
  mixed := by kernel_rfl
  f5 := ⟨Try.f115.name, by kernel_rfl, Try.func115.trans (congrArg some (by kernel_rfl))⟩
  f7 := ⟨Try.f123.name, by kernel_rfl, Try.func123.trans (congrArg some (by kernel_rfl))⟩
  f8 := Try.func124.trans (congrArg some (by kernel_rfl))
  f10 := ⟨Try.f127.name, by kernel_rfl, Try.func127.trans (congrArg some (by kernel_rfl))⟩
  f11 := ⟨Try.f128.name, by kernel_rfl, Try.func128.trans (congrArg some (by kernel_rfl))⟩
  f12 := ⟨Try.f129.name, by kernel_rfl, Try.func129.trans (congrArg some (by kernel_rfl))⟩
  f13 := ⟨Try.f130.name, by kernel_rfl, Try.func130.trans (congrArg some (by kernel_rfl))⟩
  f14 := ⟨Try.f131.name, by kernel_rfl, Try.func131.trans (congrArg some (by kernel_rfl))⟩
  f15 := ⟨Try.f132.name, by kernel_rfl, Try.func132.trans (congrArg some (by kernel_rfl))⟩
  f16 := ⟨Try.f133.name, by kernel_rfl, Try.func133.trans (congrArg some (by kernel_rfl))⟩
  f17 := ⟨Try.f134.name, by kernel_rfl, Try.func134.trans (congrArg some (by kernel_rfl))⟩
  f18 := ⟨Try.f135.name, by kernel_rfl, Try.func135.trans (congrArg some (by kernel_rfl))⟩
  f19 := Try.func136.trans (congrArg some (by kernel_rfl))
  f20 := Try.func137.trans (congrArg some (by kernel_rfl))
  f30 := ⟨Try.f138.name, by kernel_rfl, Try.func138.trans (congrArg some (by kernel_rfl))⟩
  f31 := Try.func139.trans (congrArg some (by kernel_rfl))
  f32 := Try.func140.trans (congrArg some (by kernel_rfl))
  f33 := ⟨Try.f141.name, by kernel_rfl, Try.func141.trans (congrArg some (by kernel_rfl))⟩
  f34 := ⟨Try.f142.name, by kernel_rfl, Try.func142.trans (congrArg some (by kernel_rfl))⟩
  f35 := ⟨Try.f143.name, by kernel_rfl, Try.func143.trans (congrArg some (by kernel_rfl))⟩
  f40 := ⟨Try.f144.name, by kernel_rfl, Try.func144.trans (congrArg some (by kernel_rfl))⟩
  t0 := Try.underlying0
  a0 := Try.isAgg0
  z0 := Try.sizeOf0
  v0 := Try.zeroValue0
  t3 := Try.underlying3
  a3 := Try.isAgg3
  z3 := Try.sizeOf3
  v3 := Try.zeroValue3
  t4 := Try.underlying4
  a4 := Try.isAgg4
  z4 := Try.sizeOf4
  v4 := Try.zeroValue4
  t5 := Try.underlying5
  a5 := Try.isAgg5
  z5 := Try.sizeOf5
  v5 := Try.zeroValue5
  t9 := Try.underlying9
  a9 := Try.isAgg9
  z9 := Try.sizeOf9
  v9 := Try.zeroValue9
  t22 := Try.underlying51
  a22 := Try.isAgg51
  z22 := Try.sizeOf51
  v22 := Try.zeroValue51
  t23 := Try.underlying51
  a23 := Try.isAgg51
  z23 := Try.sizeOf51
  v23 := Try.zeroValue51
  t25 := Try.underlying3
  a25 := Try.isAgg3
  z25 := Try.sizeOf3
  v25 := Try.zeroValue3
  t32 := Try.underlying71
  a32 := Try.isAgg71
  z32 := Try.sizeOf71
  v32 := Try.zeroValue71
  t35 := Try.underlying179
  a35 := Try.isAgg179
  z35 := Try.sizeOf179
  v35 := Try.zeroValue179
  t36 := Try.underlying180
  a36 := Try.isAgg180
  z36 := Try.sizeOf180
  v36 := Try.zeroValue180
  t41 := Try.underlying185
  a41 := Try.isAgg185
  z41 := Try.sizeOf185
  v41 := Try.zeroValue185
  t44 := Try.underlying63
  a44 := Try.isAgg63
  z44 := Try.sizeOf63
  v44 := Try.zeroValue63
  t46 := Try.underlying34
  a46 := Try.isAgg34
  z46 := Try.sizeOf34
  v46 := Try.zeroValue34
  t53 := Try.underlying189
  a53 := Try.isAgg189
  z53 := Try.sizeOf189
  v53 := Try.zeroValue189
  t57 := Try.underlying193
  a57 := Try.isAgg193
  z57 := Try.sizeOf193
  v57 := Try.zeroValue193
  t63 := Try.underlying195
  a63 := Try.isAgg195
  z63 := Try.sizeOf195
  v63 := Try.zeroValue195
  t64 := Try.underlying196
  a64 := Try.isAgg196
  z64 := Try.sizeOf196
  v64 := Try.zeroValue196

/-- slices.Sort's two contracts at this program. -/
theorem TrysortsD (m : Nat) : AnyZI.SortsIn Try.prog TrysortedD_ren Fence.wide m :=
  ⟨fun blk off cap ss W hH hblk hsz => callsIn_wide.2 (AnyM.slices_Sort_int TrysortD blk off cap ss W hH hblk hsz),
   fun p cap W => callsIn_wide.2 (AnyM.slices_Sort_int_none TrysortD p cap W)⟩
end Go.Proofs.Ytijjnlfmlcbfpaa
