/- slices.Sort at []string, by the library's contract laid over this program. -/
import Derived.Test.YtalkheljejkpiaaDoorBas
import Derived.Shelf.Sort.Plain
namespace Go.Proofs.YtalkheljejkpiaaDoor
open Go.RowKit Go.Shelf Go.Sort
set_option linter.unusedVariables false
set_option linter.unusedSimpArgs false

def srRen : Go.Shelf.Ren := ⟨fun | 125 => 97 | 128 => 114 | 129 => 115 | 190 => 74 | 258 => 96 | 302 => 105 | 303 => 106 | 304 => 107 | 305 => 108 | 306 => 109 | 307 => 110 | 308 => 111 | 309 => 112 | 310 => 113 | 329 => 120 | 330 => 121 | 333 => 119 | 334 => 122 | 335 => 123 | 336 => 124 | 344 => 126 | n => n, fun | 0 => 0 | 3 => 3 | 4 => 4 | 5 => 5 | 9 => 9 | 31 => 22 | 46 => 112 | 51 => 80 | 53 => 150 | 131 => 114 | 182 => 142 | 183 => 143 | 218 => 152 | 222 => 156 | 228 => 159 | 229 => 160 | n => n, fun n => n⟩
theorem srLay : Lays.n190 Tryd.prog srRen := {
  mixed := by kernel_rfl
  f125 := Tryd.func97.trans (congrArg some (by kernel_rfl))
  f128 := Tryd.func114.trans (congrArg some (by kernel_rfl))
  f129 := Tryd.func115.trans (congrArg some (by kernel_rfl))
  f190 := Tryd.func74.trans (congrArg some (by kernel_rfl))
  f258 := Tryd.func96.trans (congrArg some (by kernel_rfl))
  f302 := Tryd.func105.trans (congrArg some (by kernel_rfl))
  f303 := Tryd.func106.trans (congrArg some (by kernel_rfl))
  f304 := Tryd.func107.trans (congrArg some (by kernel_rfl))
  f305 := Tryd.func108.trans (congrArg some (by kernel_rfl))
  f306 := Tryd.func109.trans (congrArg some (by kernel_rfl))
  f307 := Tryd.func110.trans (congrArg some (by kernel_rfl))
  f308 := Tryd.func111.trans (congrArg some (by kernel_rfl))
  f309 := Tryd.func112.trans (congrArg some (by kernel_rfl))
  f310 := Tryd.func113.trans (congrArg some (by kernel_rfl))
  f329 := Tryd.func120.trans (congrArg some (by kernel_rfl))
  f330 := Tryd.func121.trans (congrArg some (by kernel_rfl))
  f333 := Tryd.func119.trans (congrArg some (by kernel_rfl))
  f334 := Tryd.func122.trans (congrArg some (by kernel_rfl))
  f335 := Tryd.func123.trans (congrArg some (by kernel_rfl))
  f336 := Tryd.func124.trans (congrArg some (by kernel_rfl))
  f344 := Tryd.func126.trans (congrArg some (by kernel_rfl))
  t0 := Tryd.underlying0
  a0 := Tryd.isAgg0
  z0 := Tryd.sizeOf0
  v0 := Tryd.zeroValue0
  t3 := Tryd.underlying3
  a3 := Tryd.isAgg3
  z3 := Tryd.sizeOf3
  v3 := Tryd.zeroValue3
  t4 := Tryd.underlying4
  a4 := Tryd.isAgg4
  z4 := Tryd.sizeOf4
  v4 := Tryd.zeroValue4
  t5 := Tryd.underlying5
  a5 := Tryd.isAgg5
  z5 := Tryd.sizeOf5
  v5 := Tryd.zeroValue5
  t9 := Tryd.underlying9
  a9 := Tryd.isAgg9
  z9 := Tryd.sizeOf9
  v9 := Tryd.zeroValue9
  t31 := Tryd.underlying22
  a31 := Tryd.isAgg22
  z31 := Tryd.sizeOf22
  v31 := Tryd.zeroValue22
  t46 := Tryd.underlying112
  a46 := Tryd.isAgg112
  z46 := Tryd.sizeOf112
  v46 := Tryd.zeroValue112
  t51 := Tryd.underlying80
  a51 := Tryd.isAgg80
  z51 := Tryd.sizeOf80
  v51 := Tryd.zeroValue80
  t53 := Tryd.underlying150
  a53 := Tryd.isAgg150
  z53 := Tryd.sizeOf150
  v53 := Tryd.zeroValue150
  t131 := Tryd.underlying114
  a131 := Tryd.isAgg114
  z131 := Tryd.sizeOf114
  v131 := Tryd.zeroValue114
  t182 := Tryd.underlying142
  a182 := Tryd.isAgg142
  z182 := Tryd.sizeOf142
  v182 := Tryd.zeroValue142
  t183 := Tryd.underlying143
  a183 := Tryd.isAgg143
  z183 := Tryd.sizeOf143
  v183 := Tryd.zeroValue143
  t218 := Tryd.underlying152
  a218 := Tryd.isAgg152
  z218 := Tryd.sizeOf152
  v218 := Tryd.zeroValue152
  t222 := Tryd.underlying156
  a222 := Tryd.isAgg156
  z222 := Tryd.sizeOf156
  v222 := Tryd.zeroValue156
  t228 := Tryd.underlying159
  a228 := Tryd.isAgg159
  z228 := Tryd.sizeOf159
  v228 := Tryd.zeroValue159
  t229 := Tryd.underlying160
  a229 := Tryd.isAgg160
  z229 := Tryd.sizeOf160
  v229 := Tryd.zeroValue160 }
theorem sort_any (blk off cap : Nat) (ss : List (List UInt8)) (w : World) (hH : Holds encStr w blk off ss.toArray) (hblk : blk < w.heap.size) (hsz : ss.length < 4611686018427387904) :
    Calls Tryd.prog 74 #[.slice (some ⟨blk, off, none⟩) ss.length cap] w fun e w' =>
      e = .returned (.tuple #[]) ∧ ∃ n os, w' = grow (putRow encStr (Sort.ahead w n) blk off (ss.mergeSort fun x y => decide (x ≤ y)).toArray) os :=
  Any.slices_Sort_string srLay blk off cap ss w hH hblk hsz
end Go.Proofs.YtalkheljejkpiaaDoor
