/- RunSames (cabinetrylaw21): a part of the proof that the law's function answers true, whatever it is handed; its conditions are those of the given card. -/
import Derived.Shelf.Sort.Plain
import Derived.Test.YtmfgdpgmdibkhaaGreatDoorProg
namespace Go.Proofs
open Go.Shelf
def Tryz.lays190_ren : Go.Shelf.Ren := ⟨fun | 190 => 71 | 125 => 117 | 258 => 116 | 128 => 180 | 129 => 181 | 302 => 171 | 303 => 172 | 304 => 173 | 305 => 174 | 306 => 175 | 307 => 176 | 308 => 177 | 309 => 178 | 310 => 179 | 333 => 268 | 329 => 269 | 330 => 270 | 334 => 271 | 335 => 272 | 336 => 273 | 344 => 343 | n => n, fun | 31 => 22 | 9 => 9 | 3 => 3 | 46 => 225 | 0 => 0 | 51 => 184 | 53 => 288 | 4 => 4 | 183 => 281 | 182 => 280 | 131 => 272 | 5 => 5 | 218 => 377 | 222 => 381 | 228 => 449 | 229 => 450 | n => n, fun | n => n⟩
theorem Tryz.lays190 : Go.Proofs.Lays.n190 Tryz.prog Tryz.lays190_ren := {
  mixed := by kernel_rfl
  f125 := Tryz.func117.trans (congrArg some (by kernel_rfl))
  f128 := Tryz.func180.trans (congrArg some (by kernel_rfl))
  f129 := Tryz.func181.trans (congrArg some (by kernel_rfl))
  f190 := Tryz.func71.trans (congrArg some (by kernel_rfl))
  f258 := Tryz.func116.trans (congrArg some (by kernel_rfl))
  f302 := Tryz.func171.trans (congrArg some (by kernel_rfl))
  f303 := Tryz.func172.trans (congrArg some (by kernel_rfl))
  f304 := Tryz.func173.trans (congrArg some (by kernel_rfl))
  f305 := Tryz.func174.trans (congrArg some (by kernel_rfl))
  f306 := Tryz.func175.trans (congrArg some (by kernel_rfl))
  f307 := Tryz.func176.trans (congrArg some (by kernel_rfl))
  f308 := Tryz.func177.trans (congrArg some (by kernel_rfl))
  f309 := Tryz.func178.trans (congrArg some (by kernel_rfl))
  f310 := Tryz.func179.trans (congrArg some (by kernel_rfl))
  f329 := Tryz.func269.trans (congrArg some (by kernel_rfl))
  f330 := Tryz.func270.trans (congrArg some (by kernel_rfl))
  f333 := Tryz.func268.trans (congrArg some (by kernel_rfl))
  f334 := Tryz.func271.trans (congrArg some (by kernel_rfl))
  f335 := Tryz.func272.trans (congrArg some (by kernel_rfl))
  f336 := Tryz.func273.trans (congrArg some (by kernel_rfl))
  f344 := Tryz.func343.trans (congrArg some (by kernel_rfl))
  t0 := Tryz.underlying0
  a0 := Tryz.isAgg0
  z0 := Tryz.sizeOf0
  v0 := Tryz.zeroValue0
  t3 := Tryz.underlying3
  a3 := Tryz.isAgg3
  z3 := Tryz.sizeOf3
  v3 := Tryz.zeroValue3
  t4 := Tryz.underlying4
  a4 := Tryz.isAgg4
  z4 := Tryz.sizeOf4
  v4 := Tryz.zeroValue4
  t5 := Tryz.underlying5
  a5 := Tryz.isAgg5
  z5 := Tryz.sizeOf5
  v5 := Tryz.zeroValue5
  t9 := Tryz.underlying9
  a9 := Tryz.isAgg9
  z9 := Tryz.sizeOf9
  v9 := Tryz.zeroValue9
  t31 := Tryz.underlying22
  a31 := Tryz.isAgg22
  z31 := Tryz.sizeOf22
  v31 := Tryz.zeroValue22
  t46 := Tryz.underlying225
  a46 := Tryz.isAgg225
  z46 := Tryz.sizeOf225
  v46 := Tryz.zeroValue225
  t51 := Tryz.underlying184
  a51 := Tryz.isAgg184
  z51 := Tryz.sizeOf184
  v51 := Tryz.zeroValue184
  t53 := Tryz.underlying288
  a53 := Tryz.isAgg288
  z53 := Tryz.sizeOf288
  v53 := Tryz.zeroValue288
  t131 := Tryz.underlying272
  a131 := Tryz.isAgg272
  z131 := Tryz.sizeOf272
  v131 := Tryz.zeroValue272
  t182 := Tryz.underlying280
  a182 := Tryz.isAgg280
  z182 := Tryz.sizeOf280
  v182 := Tryz.zeroValue280
  t183 := Tryz.underlying281
  a183 := Tryz.isAgg281
  z183 := Tryz.sizeOf281
  v183 := Tryz.zeroValue281
  t218 := Tryz.underlying377
  a218 := Tryz.isAgg377
  z218 := Tryz.sizeOf377
  v218 := Tryz.zeroValue377
  t222 := Tryz.underlying381
  a222 := Tryz.isAgg381
  z222 := Tryz.sizeOf381
  v222 := Tryz.zeroValue381
  t228 := Tryz.underlying449
  a228 := Tryz.isAgg449
  z228 := Tryz.sizeOf449
  v228 := Tryz.zeroValue449
  t229 := Tryz.underlying450
  a229 := Tryz.isAgg450
  z229 := Tryz.sizeOf450
  v229 := Tryz.zeroValue450 }
open Go.Sort Go.RowKit in
theorem Tryz.slices_Sort_string (blk off cap : Nat) (ss : List (List UInt8)) (w : World) (hH : Holds encStr w blk off ss.toArray) (hblk : blk < w.heap.size) (hsz : ss.length < 4611686018427387904) :
    Calls Tryz.prog 71 #[.slice (some ⟨blk, off, none⟩) ss.length cap] w fun e w' =>
      e = .returned (.tuple #[]) ∧ ∃ n os, w' = grow (putRow encStr (Sort.ahead w n) blk off (ss.mergeSort fun x y => decide (x ≤ y)).toArray) os := Any.slices_Sort_string Tryz.lays190 blk off cap ss w hH hblk hsz
end Go.Proofs
