/- The library's contracts at this program, laid. Conditions: none. -/
import Derived.Shelf.Sort.Plain
import Derived.Test.YtcdoanookiimaaaProg
namespace Go.Proofs
open Go.Shelf
def Try.lays190_ren : Go.Shelf.Ren := ⟨fun | 190 => 67 | 125 => 133 | 258 => 132 | 128 => 188 | 129 => 189 | 302 => 179 | 303 => 180 | 304 => 181 | 305 => 182 | 306 => 183 | 307 => 184 | 308 => 185 | 309 => 186 | 310 => 187 | 333 => 213 | 329 => 214 | 330 => 215 | 334 => 216 | 335 => 217 | 336 => 218 | 344 => 226 | n => n, fun | 31 => 28 | 9 => 9 | 3 => 3 | 46 => 153 | 0 => 0 | 51 => 192 | 53 => 135 | 4 => 4 | 183 => 185 | 182 => 184 | 131 => 93 | 5 => 5 | 218 => 208 | 222 => 212 | 228 => 217 | 229 => 218 | n => n, fun | n => n⟩
theorem Try.lays190 : Go.Proofs.Lays.n190 Try.prog Try.lays190_ren := {
  mixed := by kernel_rfl
  f125 := Try.func133.trans (congrArg some (by kernel_rfl))
  f128 := Try.func188.trans (congrArg some (by kernel_rfl))
  f129 := Try.func189.trans (congrArg some (by kernel_rfl))
  f190 := Try.func67.trans (congrArg some (by kernel_rfl))
  f258 := Try.func132.trans (congrArg some (by kernel_rfl))
  f302 := Try.func179.trans (congrArg some (by kernel_rfl))
  f303 := Try.func180.trans (congrArg some (by kernel_rfl))
  f304 := Try.func181.trans (congrArg some (by kernel_rfl))
  f305 := Try.func182.trans (congrArg some (by kernel_rfl))
  f306 := Try.func183.trans (congrArg some (by kernel_rfl))
  f307 := Try.func184.trans (congrArg some (by kernel_rfl))
  f308 := Try.func185.trans (congrArg some (by kernel_rfl))
  f309 := Try.func186.trans (congrArg some (by kernel_rfl))
  f310 := Try.func187.trans (congrArg some (by kernel_rfl))
  f329 := Try.func214.trans (congrArg some (by kernel_rfl))
  f330 := Try.func215.trans (congrArg some (by kernel_rfl))
  f333 := Try.func213.trans (congrArg some (by kernel_rfl))
  f334 := Try.func216.trans (congrArg some (by kernel_rfl))
  f335 := Try.func217.trans (congrArg some (by kernel_rfl))
  f336 := Try.func218.trans (congrArg some (by kernel_rfl))
  f344 := Try.func226.trans (congrArg some (by kernel_rfl))
  t0 := Try.underlying0
  a0 := Try.isAgg0
  z0 := Try.sizeOf0
  v0 := Try.zeroValue0
  t3 := Try.underlying3
  a3 := Try.isAgg3
  z3 := Try.sizeOf3
  v3 := Try.zeroValue3
  t4 := Try.underlying4
  a4 := Try.isAgg4
  z4 := Try.sizeOf4
  v4 := Try.zeroValue4
  t5 := Try.underlying5
  a5 := Try.isAgg5
  z5 := Try.sizeOf5
  v5 := Try.zeroValue5
  t9 := Try.underlying9
  a9 := Try.isAgg9
  z9 := Try.sizeOf9
  v9 := Try.zeroValue9
  t31 := Try.underlying28
  a31 := Try.isAgg28
  z31 := Try.sizeOf28
  v31 := Try.zeroValue28
  t46 := Try.underlying153
  a46 := Try.isAgg153
  z46 := Try.sizeOf153
  v46 := Try.zeroValue153
  t51 := Try.underlying192
  a51 := Try.isAgg192
  z51 := Try.sizeOf192
  v51 := Try.zeroValue192
  t53 := Try.underlying135
  a53 := Try.isAgg135
  z53 := Try.sizeOf135
  v53 := Try.zeroValue135
  t131 := Try.underlying93
  a131 := Try.isAgg93
  z131 := Try.sizeOf93
  v131 := Try.zeroValue93
  t182 := Try.underlying184
  a182 := Try.isAgg184
  z182 := Try.sizeOf184
  v182 := Try.zeroValue184
  t183 := Try.underlying185
  a183 := Try.isAgg185
  z183 := Try.sizeOf185
  v183 := Try.zeroValue185
  t218 := Try.underlying208
  a218 := Try.isAgg208
  z218 := Try.sizeOf208
  v218 := Try.zeroValue208
  t222 := Try.underlying212
  a222 := Try.isAgg212
  z222 := Try.sizeOf212
  v222 := Try.zeroValue212
  t228 := Try.underlying217
  a228 := Try.isAgg217
  z228 := Try.sizeOf217
  v228 := Try.zeroValue217
  t229 := Try.underlying218
  a229 := Try.isAgg218
  z229 := Try.sizeOf218
  v229 := Try.zeroValue218 }
open Go.Sort Go.RowKit in
theorem Try.slices_Sort_string (blk off cap : Nat) (ss : List (List UInt8)) (w : World) (hH : Holds encStr w blk off ss.toArray) (hblk : blk < w.heap.size) (hsz : ss.length < 4611686018427387904) :
    Calls Try.prog 67 #[.slice (some ⟨blk, off, none⟩) ss.length cap] w fun e w' =>
      e = .returned (.tuple #[]) ∧ ∃ n os, w' = grow (putRow encStr (Sort.ahead w n) blk off (ss.mergeSort fun x y => decide (x ≤ y)).toArray) os := Any.slices_Sort_string Try.lays190 blk off cap ss w hH hblk hsz
end Go.Proofs
