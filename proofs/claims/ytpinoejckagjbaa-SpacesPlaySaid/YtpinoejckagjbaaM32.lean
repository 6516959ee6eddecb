/- Contracts of the functions that the law reaches, walked, and the plain laws on them (several texts in one). -/
import Derived.Shelf.Small.Bits
import Derived.Shelf.Strconv.Itoa0
import Derived.Shelf.Sort.Plain
import Derived.Shelf.Slices.Turned
import Derived.Ground.Names2Prog
import Derived.Shelf.Slices.Clone
import Derived.Shelf.Slices.SearchI
import Derived.Shelf.Slices.Delete
import Derived.Shelf.Slices.Cells
import Derived.Shelf.Slices.Empties
import Derived.Ground.SlgnProg
import Derived.Shelf.SlicesE.Clone
import Derived.Test.YtpinoejckagjbaaProg
import Derived.BigQuiet
import Derived.Outline
import Derived.Test.YtpinoejckagjbaaM27
import Derived.Test.YtpinoejckagjbaaM31

/- Contracts of Go's library, laid over this program. -/
namespace Go.Proofs
open Go.Shelf
def Try.lays128_ren : Go.Shelf.Ren := ⟨fun | 128 => 106 | n => n, fun | 51 => 22 | 3 => 3 | 4 => 4 | 46 => 106 | 5 => 5 | 9 => 9 | n => n, fun | n => n⟩
theorem Try.lays128 : Go.Proofs.Lays.n128 Try.prog Try.lays128_ren := {
  mixed := by kernel_rfl
  f128 := Try.func106.trans (congrArg some (by kernel_rfl))
  t3 := Try.underlying3
  a3 := Try.isAgg3
  z3 := Try.sizeOf3
  v3 := Try.zeroValue3
  t4 := Try.underlying4
  a4 := Try.isAgg4
  z4 := Try.sizeOf4
  v4 := Try.zeroValue4
  t5 := Try.underlying5
  a5 := Try.isAgg5
  z5 := Try.sizeOf5
  v5 := Try.zeroValue5
  t9 := Try.underlying9
  a9 := Try.isAgg9
  z9 := Try.sizeOf9
  v9 := Try.zeroValue9
  t46 := Try.underlying106
  a46 := Try.isAgg106
  z46 := Try.sizeOf106
  v46 := Try.zeroValue106
  t51 := Try.underlying22
  a51 := Try.isAgg22
  z51 := Try.sizeOf22
  v51 := Try.zeroValue22 }
theorem Try.bits_Len32 (x : Int) (w : World) (h0 : 0 ≤ x) (h1 : x ≤ 4294967295) :
    Calls Try.prog 106 #[.int .u32 x] w fun e w' => e = .returned (.int .i64 (Lib.bitLen x.toNat)) ∧ w' = w := Any.bits_Len32 Try.lays128 x w h0 h1
def Try.lays125_ren : Go.Shelf.Ren := ⟨fun | 125 => 94 | 128 => 106 | 129 => 107 | n => n, fun | 46 => 106 | 3 => 3 | 51 => 22 | 53 => 32 | 4 => 4 | 5 => 5 | 9 => 9 | n => n, fun | n => n⟩
theorem Try.lays125 : Go.Proofs.Lays.n125 Try.prog Try.lays125_ren := {
  mixed := by kernel_rfl
  f125 := Try.func94.trans (congrArg some (by kernel_rfl))
  f128 := Try.func106.trans (congrArg some (by kernel_rfl))
  f129 := Try.func107.trans (congrArg some (by kernel_rfl))
  t3 := Try.underlying3
  a3 := Try.isAgg3
  z3 := Try.sizeOf3
  v3 := Try.zeroValue3
  t4 := Try.underlying4
  a4 := Try.isAgg4
  z4 := Try.sizeOf4
  v4 := Try.zeroValue4
  t5 := Try.underlying5
  a5 := Try.isAgg5
  z5 := Try.sizeOf5
  v5 := Try.zeroValue5
  t9 := Try.underlying9
  a9 := Try.isAgg9
  z9 := Try.sizeOf9
  v9 := Try.zeroValue9
  t46 := Try.underlying106
  a46 := Try.isAgg106
  z46 := Try.sizeOf106
  v46 := Try.zeroValue106
  t51 := Try.underlying22
  a51 := Try.isAgg22
  z51 := Try.sizeOf22
  v51 := Try.zeroValue22
  t53 := Try.underlying32
  a53 := Try.isAgg32
  z53 := Try.sizeOf32
  v53 := Try.zeroValue32 }
theorem Try.bits_Len (x : Int) (w : World) (h0 : 0 ≤ x) (h1 : x ≤ 18446744073709551615) :
    Calls Try.prog 94 #[.int .u64 x] w fun e w' => e = .returned (.int .i64 (Lib.bitLen x.toNat)) ∧ w' = w := Any.bits_Len Try.lays125 x w h0 h1
def Try.lays129_ren : Go.Shelf.Ren := ⟨fun | 129 => 107 | n => n, fun | 53 => 32 | 3 => 3 | 4 => 4 | 46 => 106 | 5 => 5 | 9 => 9 | n => n, fun | n => n⟩
theorem Try.lays129 : Go.Proofs.Lays.n129 Try.prog Try.lays129_ren := {
  mixed := by kernel_rfl
  f129 := Try.func107.trans (congrArg some (by kernel_rfl))
  t3 := Try.underlying3
  a3 := Try.isAgg3
  z3 := Try.sizeOf3
  v3 := Try.zeroValue3
  t4 := Try.underlying4
  a4 := Try.isAgg4
  z4 := Try.sizeOf4
  v4 := Try.zeroValue4
  t5 := Try.underlying5
  a5 := Try.isAgg5
  z5 := Try.sizeOf5
  v5 := Try.zeroValue5
  t9 := Try.underlying9
  a9 := Try.isAgg9
  z9 := Try.sizeOf9
  v9 := Try.zeroValue9
  t46 := Try.underlying106
  a46 := Try.isAgg106
  z46 := Try.sizeOf106
  v46 := Try.zeroValue106
  t53 := Try.underlying32
  a53 := Try.isAgg32
  z53 := Try.sizeOf32
  v53 := Try.zeroValue32 }
theorem Try.bits_Len64 (x : Int) (w : World) (h0 : 0 ≤ x) (h1 : x ≤ 18446744073709551615) :
    Calls Try.prog 107 #[.int .u64 x] w fun e w' => e = .returned (.int .i64 (Lib.bitLen x.toNat)) ∧ w' = w := Any.bits_Len64 Try.lays129 x w h0 h1
def Try.lays189_ren : Go.Shelf.Ren := ⟨fun | 189 => 76 | 125 => 94 | 257 => 93 | 128 => 106 | 129 => 107 | 294 => 97 | 295 => 98 | 296 => 99 | 297 => 100 | 298 => 101 | 299 => 102 | 216 => 103 | 300 => 104 | 301 => 105 | 328 => 109 | 329 => 110 | 330 => 111 | 331 => 112 | 332 => 113 | 215 => 114 | 343 => 115 | n => n, fun | 28 => 81 | 3 => 3 | 46 => 106 | 0 => 0 | 51 => 22 | 53 => 32 | 4 => 4 | 183 => 173 | 182 => 172 | 131 => 152 | 5 => 5 | 9 => 9 | 218 => 181 | 222 => 185 | 228 => 187 | 229 => 90 | n => n, fun | n => n⟩
theorem Try.lays189 : Go.Proofs.Lays.n189 Try.prog Try.lays189_ren := {
  mixed := by kernel_rfl
  f125 := Try.func94.trans (congrArg some (by kernel_rfl))
  f128 := Try.func106.trans (congrArg some (by kernel_rfl))
  f129 := Try.func107.trans (congrArg some (by kernel_rfl))
  f189 := Try.func76.trans (congrArg some (by kernel_rfl))
  f215 := Try.func114.trans (congrArg some (by kernel_rfl))
  f216 := Try.func103.trans (congrArg some (by kernel_rfl))
  f257 := Try.func93.trans (congrArg some (by kernel_rfl))
  f294 := Try.func97.trans (congrArg some (by kernel_rfl))
  f295 := Try.func98.trans (congrArg some (by kernel_rfl))
  f296 := Try.func99.trans (congrArg some (by kernel_rfl))
  f297 := Try.func100.trans (congrArg some (by kernel_rfl))
  f298 := Try.func101.trans (congrArg some (by kernel_rfl))
  f299 := Try.func102.trans (congrArg some (by kernel_rfl))
  f300 := Try.func104.trans (congrArg some (by kernel_rfl))
  f301 := Try.func105.trans (congrArg some (by kernel_rfl))
  f328 := Try.func109.trans (congrArg some (by kernel_rfl))
  f329 := Try.func110.trans (congrArg some (by kernel_rfl))
  f330 := Try.func111.trans (congrArg some (by kernel_rfl))
  f331 := Try.func112.trans (congrArg some (by kernel_rfl))
  f332 := Try.func113.trans (congrArg some (by kernel_rfl))
  f343 := Try.func115.trans (congrArg some (by kernel_rfl))
  t0 := Try.underlying0
  a0 := Try.isAgg0
  z0 := Try.sizeOf0
  v0 := Try.zeroValue0
  t3 := Try.underlying3
  a3 := Try.isAgg3
  z3 := Try.sizeOf3
  v3 := Try.zeroValue3
  t4 := Try.underlying4
  a4 := Try.isAgg4
  z4 := Try.sizeOf4
  v4 := Try.zeroValue4
  t5 := Try.underlying5
  a5 := Try.isAgg5
  z5 := Try.sizeOf5
  v5 := Try.zeroValue5
  t9 := Try.underlying9
  a9 := Try.isAgg9
  z9 := Try.sizeOf9
  v9 := Try.zeroValue9
  t28 := Try.underlying81
  a28 := Try.isAgg81
  z28 := Try.sizeOf81
  v28 := Try.zeroValue81
  t46 := Try.underlying106
  a46 := Try.isAgg106
  z46 := Try.sizeOf106
  v46 := Try.zeroValue106
  t51 := Try.underlying22
  a51 := Try.isAgg22
  z51 := Try.sizeOf22
  v51 := Try.zeroValue22
  t53 := Try.underlying32
  a53 := Try.isAgg32
  z53 := Try.sizeOf32
  v53 := Try.zeroValue32
  t131 := Try.underlying152
  a131 := Try.isAgg152
  z131 := Try.sizeOf152
  v131 := Try.zeroValue152
  t182 := Try.underlying172
  a182 := Try.isAgg172
  z182 := Try.sizeOf172
  v182 := Try.zeroValue172
  t183 := Try.underlying173
  a183 := Try.isAgg173
  z183 := Try.sizeOf173
  v183 := Try.zeroValue173
  t218 := Try.underlying181
  a218 := Try.isAgg181
  z218 := Try.sizeOf181
  v218 := Try.zeroValue181
  t222 := Try.underlying185
  a222 := Try.isAgg185
  z222 := Try.sizeOf185
  v222 := Try.zeroValue185
  t228 := Try.underlying187
  a228 := Try.isAgg187
  z228 := Try.sizeOf187
  v228 := Try.zeroValue187
  t229 := Try.underlying90
  a229 := Try.isAgg90
  z229 := Try.sizeOf90
  v229 := Try.zeroValue90 }
open Go.Sort Go.RowKit in
theorem Try.slices_Sort_int (blk off cap : Nat) (zs : List Int) (w : World) (hH : Holds (Value.int .i64) w blk off zs.toArray) (hblk : blk < w.heap.size) (hsz : zs.length < 4611686018427387904) :
    Calls Try.prog 76 #[.slice (some ⟨blk, off, none⟩) zs.length cap] w fun e w' =>
      e = .returned (.tuple #[]) ∧ ∃ n os, w' = grow (putRow (Value.int .i64) (Sort.ahead w n) blk off (zs.mergeSort fun x y => decide (x ≤ y)).toArray) os := Any.slices_Sort_int Try.lays189 blk off cap zs w hH hblk hsz
def Try.lays108_ren : Go.Shelf.Ren := ⟨fun | 108 => 85 | n => n, fun | 28 => 81 | 3 => 3 | 0 => 0 | 4 => 4 | n => n, fun | n => n⟩
theorem Try.lays108 : Go.Proofs.Lays.n108 Try.prog Try.lays108_ren := {
  mixed := by kernel_rfl
  f108 := Try.func85.trans (congrArg some (by kernel_rfl))
  t0 := Try.underlying0
  a0 := Try.isAgg0
  z0 := Try.sizeOf0
  v0 := Try.zeroValue0
  t3 := Try.underlying3
  a3 := Try.isAgg3
  z3 := Try.sizeOf3
  v3 := Try.zeroValue3
  t4 := Try.underlying4
  a4 := Try.isAgg4
  z4 := Try.sizeOf4
  v4 := Try.zeroValue4
  t28 := Try.underlying81
  a28 := Try.isAgg81
  z28 := Try.sizeOf81
  v28 := Try.zeroValue81 }
open Go.Lib in
theorem Try.slices_Index_int (b off n c : Nat) (zs : List Int) (x : Int) (w : World) (hz : n ≤ zs.length) (hbig : n ≤ 9223372036854775807) (hc : ∀ j, j < zs.length → w.cell? ⟨b, off + j, none⟩ = some (.int .i64 (zs.getD j 0))) :
    Calls Try.prog 85 #[.slice (some ⟨b, off, none⟩) n c, .int .i64 x] w fun e w' => e = .returned (.int .i64 (Lib.idxOf (zs.take n) x)) ∧ w' = w := Any.slices_Index_int Try.lays108 b off n c zs x w hz hbig hc
open Go.Lib in
theorem Try.slices_Index_int_empty (a : Option Addr) (c : Nat) (x : Int) (w : World) :
    Calls Try.prog 85 #[.slice a 0 c, .int .i64 x] w fun e w' => e = .returned (.int .i64 (Lib.idxOf [] x)) ∧ w' = w := Any.slices_Index_int_empty Try.lays108 a c x w
def Try.lays113_ren : Go.Shelf.Ren := ⟨fun | 113 => 68 | n => n, fun | 28 => 81 | 3 => 3 | 4 => 4 | 9 => 9 | 20 => 20 | 0 => 0 | n => n, fun | n => n⟩
theorem Try.lays113 : Go.Proofs.Lays.n113 Try.prog Try.lays113_ren := {
  mixed := by kernel_rfl
  f113 := Try.func68.trans (congrArg some (by kernel_rfl))
  t0 := Try.underlying0
  a0 := Try.isAgg0
  z0 := Try.sizeOf0
  v0 := Try.zeroValue0
  t3 := Try.underlying3
  a3 := Try.isAgg3
  z3 := Try.sizeOf3
  v3 := Try.zeroValue3
  t4 := Try.underlying4
  a4 := Try.isAgg4
  z4 := Try.sizeOf4
  v4 := Try.zeroValue4
  t9 := Try.underlying9
  a9 := Try.isAgg9
  z9 := Try.sizeOf9
  v9 := Try.zeroValue9
  t20 := Try.underlying20
  a20 := Try.isAgg20
  z20 := Try.sizeOf20
  v20 := Try.zeroValue20
  t28 := Try.underlying81
  a28 := Try.isAgg81
  z28 := Try.sizeOf81
  v28 := Try.zeroValue81 }
open Go.Lib in
theorem Try.slices_Max_int (b off n c : Nat) (zs : List Int) (w : World) (hn : 0 < n) (hz : n ≤ zs.length) (hbig : n ≤ 9223372036854775807) (hc : ∀ j, j < zs.length → w.cell? ⟨b, off + j, none⟩ = some (.int .i64 (zs.getD j 0))) :
    Calls Try.prog 68 #[.slice (some ⟨b, off, none⟩) n c] w fun e w' => e = .returned (.int .i64 (Lib.maxOf (zs.take n))) ∧ w' = w := Any.slices_Max_int Try.lays113 b off n c zs w hn hz hbig hc
def Try.laysNm215_ren : Go.Shelf.Ren := ⟨fun | 15 => 65 | n => n, fun | 22 => 81 | 3 => 3 | 4 => 4 | n => n, fun | n => n⟩
theorem Try.laysNm215 : Go.Proofs.Lays2.n15 Try.prog Try.laysNm215_ren := {
  mixed := by kernel_rfl
  f15 := Try.func65.trans (congrArg some (by kernel_rfl))
  t3 := Try.underlying3
  a3 := Try.isAgg3
  z3 := Try.sizeOf3
  v3 := Try.zeroValue3
  t4 := Try.underlying4
  a4 := Try.isAgg4
  z4 := Try.sizeOf4
  v4 := Try.zeroValue4
  t22 := Try.underlying81
  a22 := Try.isAgg81
  z22 := Try.sizeOf81
  v22 := Try.zeroValue81
  i3 := by kernel_rfl }
open Go.RowKit Go.Lib in
theorem Try.slices_Clone_int (b off n c : Nat) (zs : List Int) (w : World) (hz : n ≤ zs.length) (hbig : n * 8 ≤ 140737488355328) (hc : ∀ j, j < zs.length → w.cell? ⟨b, off + j, none⟩ = some (.int .i64 (zs.getD j 0))) :
    Calls Try.prog 65 #[.slice (some ⟨b, off, none⟩) n c] w fun e w' => ∃ v', e = .returned v' ∧ w'.ownsRow w.heap.size 3 1 v' n ((zs.take n).map (Value.int .i64)) ∧ v' ≠ .slice none 0 0 ∧ Below w.heap.size w w' := Any.slices_Clone_int Try.laysNm215 b off n c zs w hz hbig hc
open Go.RowKit Go.Lib in
theorem Try.slices_Clone_int_nil (n c : Nat) (w : World) :
    Calls Try.prog 65 #[.slice none n c] w fun e w' => e = .returned (.slice none 0 0) ∧ w' = w := Any.slices_Clone_int_nil Try.laysNm215 n c w
open Go.RowKit Go.Lib in
theorem Try.slices_Clone_int_zero (a : Addr) (c : Nat) (w : World) :
    Calls Try.prog 65 #[.slice (some a) 0 c] w fun e w' => ∃ v', e = .returned v' ∧ w'.ownsRow w.heap.size 3 1 v' 0 [] ∧ v' ≠ .slice none 0 0 ∧ Below w.heap.size w w' := Any.slices_Clone_int_zero Try.laysNm215 a c w
def Try.laysNm237_ren : Go.Shelf.Ren := ⟨fun | 37 => 114 | n => n, fun | 3 => 3 | 4 => 4 | n => n, fun | n => n⟩
theorem Try.laysNm237 : Go.Proofs.Lays2.n37 Try.prog Try.laysNm237_ren := {
  mixed := by kernel_rfl
  f37 := Try.func114.trans (congrArg some (by kernel_rfl))
  t3 := Try.underlying3
  a3 := Try.isAgg3
  z3 := Try.sizeOf3
  v3 := Try.zeroValue3
  t4 := Try.underlying4
  a4 := Try.isAgg4
  z4 := Try.sizeOf4
  v4 := Try.zeroValue4 }
open Go.RowKit Go.Lib in
theorem Try.cmp_isNaN_int2 (x : Int) (w : World) :
    Calls Try.prog 114 #[.int .i64 x] w fun e w' => e = .returned (.bool false) ∧ w' = w := Any.cmp_isNaN_int2 Try.laysNm237 x w
def Try.laysNm231_ren : Go.Shelf.Ren := ⟨fun | 31 => 103 | 37 => 114 | n => n, fun | 3 => 3 | 4 => 4 | n => n, fun | n => n⟩
theorem Try.laysNm231 : Go.Proofs.Lays2.n31 Try.prog Try.laysNm231_ren := {
  mixed := by kernel_rfl
  f31 := Try.func103.trans (congrArg some (by kernel_rfl))
  f37 := Try.func114.trans (congrArg some (by kernel_rfl))
  t3 := Try.underlying3
  a3 := Try.isAgg3
  z3 := Try.sizeOf3
  v3 := Try.zeroValue3
  t4 := Try.underlying4
  a4 := Try.isAgg4
  z4 := Try.sizeOf4
  v4 := Try.zeroValue4 }
open Go.RowKit Go.Lib in
theorem Try.cmp_Less_int2 (x y : Int) (w : World) :
    Calls Try.prog 103 #[.int .i64 x, .int .i64 y] w fun e w' => e = .returned (.bool (decide (x < y))) ∧ w' = w := Any.cmp_Less_int2 Try.laysNm231 x y w
def Try.laysNm223_ren : Go.Shelf.Ren := ⟨fun | 23 => 86 | n => n, fun | 22 => 81 | 3 => 3 | 4 => 4 | 0 => 0 | n => n, fun | n => n⟩
theorem Try.laysNm223 : Go.Proofs.Lays2.n23 Try.prog Try.laysNm223_ren := {
  mixed := by kernel_rfl
  f23 := Try.func86.trans (congrArg some (by kernel_rfl))
  t0 := Try.underlying0
  a0 := Try.isAgg0
  z0 := Try.sizeOf0
  v0 := Try.zeroValue0
  t3 := Try.underlying3
  a3 := Try.isAgg3
  z3 := Try.sizeOf3
  v3 := Try.zeroValue3
  t4 := Try.underlying4
  a4 := Try.isAgg4
  z4 := Try.sizeOf4
  v4 := Try.zeroValue4
  t22 := Try.underlying81
  a22 := Try.isAgg81
  z22 := Try.sizeOf81
  v22 := Try.zeroValue81
  i3 := by kernel_rfl }
open Go.RowKit Go.Lib Go.Sort in
theorem Try.slices_Delete_int_arr (blk off cap i j : Nat) (d : Array Int) (w : World) (hH : Holds encI w blk off d) (hcap : d.size ≤ cap) (hm : cap ≤ 9223372036854775807) (hij : i ≤ j) (hj : j ≤ d.size) :
    Calls Try.prog 86 #[.slice (some ⟨blk, off, none⟩) d.size cap, .int .i64 i, .int .i64 j] w fun e w' => e = .returned (.slice (some ⟨blk, off, none⟩) (d.size - (j - i)) cap) ∧ ∃ q, w' = putRow encI (Sort.ahead w q) blk off (d.toList.take i ++ d.toList.drop j ++ List.replicate (j - i) 0).toArray := Any.slices_Delete_int_arr Try.laysNm223 blk off cap i j d w hH hcap hm hij hj
open Go.RowKit Go.Lib Go.Sort in
theorem Try.slices_Delete_int (blk off cap i j : Nat) (zs : List Int) (w : World) (hH : Holds (Value.int .i64) w blk off zs.toArray) (hcap : zs.length ≤ cap) (hm : cap ≤ 9223372036854775807) (hij : i ≤ j) (hj : j ≤ zs.length) :
    Calls Try.prog 86 #[.slice (some ⟨blk, off, none⟩) zs.length cap, .int .i64 i, .int .i64 j] w fun e w' => e = .returned (.slice (some ⟨blk, off, none⟩) (zs.length - (j - i)) cap) ∧ ∃ q, w' = putRow (Value.int .i64) (Sort.ahead w q) blk off (zs.take i ++ zs.drop j ++ List.replicate (j - i) 0).toArray := Any.slices_Delete_int Try.laysNm223 blk off cap i j zs w hH hcap hm hij hj
open Go.RowKit Go.Lib Go.Sort in
theorem Try.slices_Delete_int_cells (b off n c i j : Nat) (zs : List Int) (w : World) (hz : n ≤ zs.length) (hcap : n ≤ c) (hm : c ≤ 9223372036854775807) (hij : i ≤ j) (hj : j ≤ n) (hc : ∀ j, j < zs.length → w.cell? ⟨b, off + j, none⟩ = some (.int .i64 (zs.getD j 0))) (hf : ∀ j, j < n → w.frozen? ⟨b, off + j, none⟩ = false) :
    Calls Try.prog 86 #[.slice (some ⟨b, off, none⟩) n c, .int .i64 i, .int .i64 j] w fun e w' => e = .returned (.slice (some ⟨b, off, none⟩) (n - (j - i)) c) ∧ ∃ q, w' = (w.drewN q).setCells b off (((zs.take n).take i ++ (zs.take n).drop j ++ List.replicate (j - i) 0).map (Value.int .i64)) := Any.slices_Delete_int_cells Try.laysNm223 b off n c i j zs w hz hcap hm hij hj hc hf
open Go.RowKit Go.Lib in
theorem Try.slices_Delete_int_empty (a : Option Addr) (c : Nat) (w : World) :
    Calls Try.prog 86 #[.slice a 0 c, .int .i64 0, .int .i64 0] w fun e w' => e = .returned (.slice a 0 c) ∧ w' = w := Any.slices_Delete_int_empty Try.laysNm223 a c w
def Try.laysSlE041_f65_ren : Go.Shelf.Ren := ⟨fun | 41 => 65 | n => n, fun | 22 => 81 | 23 => 3 | 4 => 4 | n => n, fun | n => n⟩
theorem Try.laysSlE041_f65 : Go.Proofs.SlLaysE0.n41 Try.prog Try.laysSlE041_f65_ren := {
  mixed := by kernel_rfl
  f41 := ⟨Try.f65.name, by decide, Try.func65.trans (congrArg some (by kernel_rfl))⟩
  t4 := Try.underlying4
  a4 := Try.isAgg4
  z4 := Try.sizeOf4
  v4 := Try.zeroValue4
  t22 := Try.underlying81
  a22 := Try.isAgg81
  z22 := Try.sizeOf81
  v22 := Try.zeroValue81 }
open Go.RowKit Go.Lib in
theorem Try.slices_Clone_f65 (i0 : TypeInfo) (z : Value) (size bytes : Nat) (hi : Try.prog.info? 3 = some i0) (hz0 : i0.zero = some z) (hz1 : i0.size = size) (hz2 : i0.bytes = bytes) (hzs : z.cells.size = size) (hsz : 0 < size) (z23 : ∀ w, (Go.sizeOf 3).run Try.prog w = .ok size w) (b off n c : Nat) (news : List Value) (w : World) (hl : news.length = n * size) (hn : n ≤ maxLen) (hbig : n * bytes ≤ 140737488355328) (hc : ∀ j u, news[j]? = some u → w.cell? ⟨b, off + j, none⟩ = some u) (h1 : ∀ u ∈ news, u.oneCell' = true) :
    Calls Try.prog 65 #[.slice (some ⟨b, off, none⟩) n c] w fun e w' => ∃ v', e = .returned v' ∧ w'.ownsRow w.heap.size 3 size v' n news ∧ v' ≠ .slice none 0 0 ∧ Below w.heap.size w w' := AnyE.slices_Clone Try.laysSlE041_f65 i0 z size bytes hi hz0 hz1 hz2 hzs hsz z23 b off n c news w hl hn hbig hc h1
def Try.laysSlE041_f69_ren : Go.Shelf.Ren := ⟨fun | 41 => 69 | n => n, fun | 22 => 44 | 23 => 22 | 4 => 4 | n => n, fun | n => n⟩
theorem Try.laysSlE041_f69 : Go.Proofs.SlLaysE0.n41 Try.prog Try.laysSlE041_f69_ren := {
  mixed := by kernel_rfl
  f41 := ⟨Try.f69.name, by decide, Try.func69.trans (congrArg some (by kernel_rfl))⟩
  t4 := Try.underlying4
  a4 := Try.isAgg4
  z4 := Try.sizeOf4
  v4 := Try.zeroValue4
  t22 := Try.underlying44
  a22 := Try.isAgg44
  z22 := Try.sizeOf44
  v22 := Try.zeroValue44 }
open Go.RowKit Go.Lib in
theorem Try.slices_Clone_f69 (i0 : TypeInfo) (z : Value) (size bytes : Nat) (hi : Try.prog.info? 22 = some i0) (hz0 : i0.zero = some z) (hz1 : i0.size = size) (hz2 : i0.bytes = bytes) (hzs : z.cells.size = size) (hsz : 0 < size) (z23 : ∀ w, (Go.sizeOf 22).run Try.prog w = .ok size w) (b off n c : Nat) (news : List Value) (w : World) (hl : news.length = n * size) (hn : n ≤ maxLen) (hbig : n * bytes ≤ 140737488355328) (hc : ∀ j u, news[j]? = some u → w.cell? ⟨b, off + j, none⟩ = some u) (h1 : ∀ u ∈ news, u.oneCell' = true) :
    Calls Try.prog 69 #[.slice (some ⟨b, off, none⟩) n c] w fun e w' => ∃ v', e = .returned v' ∧ w'.ownsRow w.heap.size 22 size v' n news ∧ v' ≠ .slice none 0 0 ∧ Below w.heap.size w w' := AnyE.slices_Clone Try.laysSlE041_f69 i0 z size bytes hi hz0 hz1 hz2 hzs hsz z23 b off n c news w hl hn hbig hc h1
open Go.RowKit Go.Lib in
theorem Try.slices_Clone_nil_f65 (n c : Nat) (w : World) :
    Calls Try.prog 65 #[.slice none n c] w fun e w' => e = .returned (.slice none 0 0) ∧ w' = w := AnyE.slices_Clone_nil Try.laysSlE041_f65 n c w
open Go.RowKit Go.Lib in
theorem Try.slices_Clone_nil_f69 (n c : Nat) (w : World) :
    Calls Try.prog 69 #[.slice none n c] w fun e w' => e = .returned (.slice none 0 0) ∧ w' = w := AnyE.slices_Clone_nil Try.laysSlE041_f69 n c w
end Go.Proofs

/- The program's spaces, as they lie in memory. -/
namespace Go.Proofs.Ytpinoejckagjbaa
open Go.RowKit Go.Mum
set_option linter.unusedVariables false
set_option linter.unusedSimpArgs false
set_option maxRecDepth 100000

/-- What the program's spaces hold, by the number of the space. -/
structure QSt where
  tk : Nat → Bool
  us : Nat → Bool
  kp : Nat → Nat
  kr : Nat → Nat

/-- Blocks that a row of the spaces may not be. -/
def qNb (q r fb g p pm ns : Nat) (sh : Nat → Nat) : List Nat := q :: r :: fb :: g :: p :: pm :: (List.range ns).map sh

/-- The program's spaces. -/
structure QAt (x : World) (q r fb g p pm ns : Nat) (sh : Nat → Nat) (A : QSt) (age : List Nat) (use : Bool) (kept lost : Nat) (f : Nat → Value) (ga gc : Nat) (ea : Option Addr) (ec : Nat) (us : List Nat := upW) : Prop where
  arr : ArrAt x q 102 48 f
  v0 : f 0 = .bool true
  v1 : f 1 = .pointer (some ⟨r, 0, none⟩)
  v2 : f 2 = .pointer (some ⟨p, 0, none⟩)
  vs : ∀ k, k < 8 → f (3 + k * 5) = if k < ns then .pointer (some ⟨sh k, 0, none⟩) else .pointer none
  vt : ∀ k, k < 8 → f (3 + k * 5 + 1) = .bool (A.tk k)
  vu : ∀ k, k < 8 → f (3 + k * 5 + 2) = .bool (A.us k)
  vp : ∀ k, k < 8 → f (3 + k * 5 + 3) = .int .u32 (A.kp k : Nat)
  vr : ∀ k, k < 8 → f (3 + k * 5 + 4) = .int .u32 (A.kr k : Nat)
  va : f 43 = .slice (some ⟨ga, 0, none⟩) ns gc
  vuse : f 44 = .bool use
  vup : f 45 = .slice ea us.length ec
  vk : f 46 = .int .i64 (kept : Nat)
  vl : f 47 = .int .i64 (lost : Nat)
  row : x.ownsRow 0 3 1 (.slice (some ⟨ga, 0, none⟩) ns gc) ns (age.map fun k => .int .i64 (k : Nat))
  up : UpR x ea us (qNb q r fb g p pm ns sh)
  nd : age.Nodup
  lt : ∀ k ∈ age, k < ns
  len : age.length = ns
  ns8 : 1 ≤ ns ∧ ns ≤ 8
  free : ∀ k, ns ≤ k → A.tk k = false
  apart : ga ∉ qNb q r fb g p pm ns sh ∧ ∀ o, ea ≠ some ⟨ga, o, none⟩
  ltb : ∀ k ∈ qNb q r fb g p pm ns sh, k < x.heap.size

section
variable {x y : World} {q r fb g p pm ns : Nat} {sh : Nat → Nat} {A : QSt} {age : List Nat} {use : Bool} {kept lost : Nat} {f : Nat → Value} {ga gc : Nat} {ea : Option Addr} {ec : Nat} {us : List Nat}

theorem QAt.cells (h : QAt x q r fb g p pm ns sh A age use kept lost f ga gc ea ec) : x.cell? ⟨q, 0, none⟩ = some (.bool true) ∧ x.cell? ⟨q, 1, none⟩ = some (.pointer (some ⟨r, 0, none⟩)) ∧ x.cell? ⟨q, 2, none⟩ = some (.pointer (some ⟨p, 0, none⟩)) ∧ x.cell? ⟨q, 43, none⟩ = some (.slice (some ⟨ga, 0, none⟩) ns gc) ∧ x.cell? ⟨q, 44, none⟩ = some (.bool use) ∧ x.cell? ⟨q, 45, none⟩ = some (.slice ea 4 ec) ∧ x.cell? ⟨q, 46, none⟩ = some (.int .i64 kept) ∧ x.cell? ⟨q, 47, none⟩ = some (.int .i64 lost) := by
  refine ⟨?_, ?_, ?_, ?_, ?_, ?_, ?_, ?_⟩
  · rw [← h.v0]; exact ArrAt.cell h.arr (by omega)
  · rw [← h.v1]; exact ArrAt.cell h.arr (by omega)
  · rw [← h.v2]; exact ArrAt.cell h.arr (by omega)
  · rw [← h.va]; exact ArrAt.cell h.arr (by omega)
  · rw [← h.vuse]; exact ArrAt.cell h.arr (by omega)
  · have hh := ArrAt.cell h.arr (show 45 < 48 by omega); rw [h.vup] at hh; exact hh
  · rw [← h.vk]; exact ArrAt.cell h.arr (by omega)
  · rw [← h.vl]; exact ArrAt.cell h.arr (by omega)

theorem QAt.cellsU (h : QAt x q r fb g p pm ns sh A age use kept lost f ga gc ea ec us) : x.cell? ⟨q, 0, none⟩ = some (.bool true) ∧ x.cell? ⟨q, 43, none⟩ = some (.slice (some ⟨ga, 0, none⟩) ns gc) ∧ x.cell? ⟨q, 44, none⟩ = some (.bool use) := by
  refine ⟨?_, ?_, ?_⟩
  · rw [← h.v0]; exact ArrAt.cell h.arr (by omega)
  · rw [← h.va]; exact ArrAt.cell h.arr (by omega)
  · rw [← h.vuse]; exact ArrAt.cell h.arr (by omega)

theorem QAt.space (h : QAt x q r fb g p pm ns sh A age use kept lost f ga gc ea ec us) {k : Nat} (hk : k < 8) : x.cell? ⟨q, 3 + k * 5, none⟩ = some (if k < ns then .pointer (some ⟨sh k, 0, none⟩) else .pointer none) ∧ x.cell? ⟨q, 3 + k * 5 + 1, none⟩ = some (.bool (A.tk k)) ∧ x.cell? ⟨q, 3 + k * 5 + 2, none⟩ = some (.bool (A.us k)) ∧ x.cell? ⟨q, 3 + k * 5 + 3, none⟩ = some (.int .u32 (A.kp k : Nat)) ∧ x.cell? ⟨q, 3 + k * 5 + 4, none⟩ = some (.int .u32 (A.kr k : Nat)) := by
  refine ⟨?_, ?_, ?_, ?_, ?_⟩
  · rw [← h.vs k hk]; exact ArrAt.cell h.arr (by omega)
  · rw [← h.vt k hk]; exact ArrAt.cell h.arr (by omega)
  · rw [← h.vu k hk]; exact ArrAt.cell h.arr (by omega)
  · rw [← h.vp k hk]; exact ArrAt.cell h.arr (by omega)
  · rw [← h.vr k hk]; exact ArrAt.cell h.arr (by omega)

theorem QAt.ageCell (h : QAt x q r fb g p pm ns sh A age use kept lost f ga gc ea ec us) : ns ≤ gc ∧ gc ≤ maxLen ∧ (∀ i (hi : i < age.length), x.cell? ⟨ga, i, none⟩ = some (.int .i64 (age[i] : Nat))) ∧ ∃ cur, x.heap[ga]? = some (.cells cur 3 (0, 0)) := by
  have hl := h.len
  have hn := h.ns8
  have hr := h.row
  obtain ⟨ga', hga, h2⟩ := own_some hr (by omega)
  cases hga
  rcases hr.2 with ⟨h1, _⟩ | ⟨g1, cap, cur, h1, _, hh, hcap, hmax, _⟩
  · cases h1
  · cases h1
    refine ⟨hcap, hmax, fun i hi => ?_, cur, hh⟩
    have := h2 i (by omega)
    rw [List.getElem?_map, List.getElem?_eq_getElem hi] at this
    exact this

theorem QAt.keep {l : List Nat} (h : QAt x q r fb g p pm ns sh A age use kept lost f ga gc ea ec us) (hk : Keep l x y) (hq : q ∉ l) (ha : ga ∉ l) (hu : us ≠ [] → ∀ b o, ea = some ⟨b, o, none⟩ → b ∉ l) : QAt y q r fb g p pm ns sh A age use kept lost f ga gc ea ec us := by
  refine ⟨ArrAt.keep h.arr hk hq, h.v0, h.v1, h.v2, h.vs, h.vt, h.vu, h.vp, h.vr, h.va, h.vuse, h.vup, h.vk, h.vl, own_keep h.row hk (fun b hb => by cases hb; exact ha), ⟨h.up.le, h.up.lt, ?_⟩, h.nd, h.lt, h.len, h.ns8, h.free, h.apart, fun k hkm => Nat.lt_of_lt_of_le (h.ltb k hkm) hk.size⟩
  rcases h.up.row with h3 | ⟨b, o, h3, h4, h5⟩
  · exact .inl h3
  · exact .inr ⟨b, o, h3, h4, fun j hj => hk.cell (h5 j hj) (hu (by rintro rfl; simp at hj) b o h3)⟩

theorem QAt.keep0 (h : QAt x q r fb g p pm ns sh A age use kept lost f ga gc ea ec us) (hk : Keep [] x y) : QAt y q r fb g p pm ns sh A age use kept lost f ga gc ea ec us := h.keep hk (by simp) (by simp) (fun _ _ _ _ => by simp)

/-- A call of one of the shadows. -/
theorem QAt.nbs (h : QAt x q r fb g p pm ns sh A age use kept lost f ga gc ea ec us) {l : List Nat} (hk : Keep l x y) (hl : ∀ k ∈ l, k ∈ qNb q r fb g p pm ns sh ∧ k ≠ q) : QAt y q r fb g p pm ns sh A age use kept lost f ga gc ea ec us := by
  refine h.keep hk (fun hq => (hl q hq).2 rfl) (fun hm => h.apart.1 (hl ga hm).1) (fun hne b o hb hm => ?_)
  rcases h.up.row with h3 | ⟨b', o', h3, h4, h5⟩
  · exact hne h3
  · rw [hb] at h3
    cases h3
    exact h4 (hl b hm).1
end

theorem none_at {x : World} {q : Nat} (h : x.cell? ⟨q, 0, none⟩ = some (.bool true)) :
    Calls Try.prog 60 #[.pointer (some ⟨q, 0, none⟩)] x fun e y => e = .returned (.bool false) ∧ x = y := by
  go_enter Try.func60, Try.ntmps60
  go_wp2_with fail
  go_ret
  exact ⟨rfl, rfl⟩

theorem now_at {x : World} {q r fb g p pm ns : Nat} {sh : Nat → Nat} {A : QSt} {age : List Nat} {use : Bool} {kept lost : Nat} {f : Nat → Value} {ga gc : Nat} {ea : Option Addr} {ec : Nat} (h : QAt x q r fb g p pm ns sh A age use kept lost f ga gc ea ec) {i : Nat} (hi : i + 1 = age.length) :
    Calls Try.prog 64 #[.pointer (some ⟨q, 0, none⟩)] x fun e y => e = .returned (.int .i64 (age[i]'(by omega) : Nat)) ∧ ∃ m, y = x.drewN m := by
  have hil : i < age.length := by omega
  obtain ⟨-, -, -, c0, -⟩ := h.cells
  obtain ⟨h1, h2, h3, -⟩ := h.ageCell
  have hc := h3 i hil
  have h8 : age.length ≤ 8 := by have := h.len; have := h.ns8; omega
  have hn : ns = age.length := h.len.symm
  have w1 : IntKind.i64.wrap (i : Int) = (i : Int) := IntWalk.i64_in _ (by omega)
  have w1' : (ns : Int) - 1 = (i : Int) := by omega
  have hi0 : (0 : Int) ≤ (i : Int) := by omega
  have hi1 : (i : Int) < (ns : Int) := by omega
  generalize age[i] = a at hc ⊢
  clear h h1 h2 h3 hn hi hil h8
  go_enter Try.func64, Try.ntmps64
  go_wp2_with fail
  go_quiet (fail)
  go_wp2_with fail
  go_ret
  exact ⟨rfl, _, rfl⟩

theorem now_quiet {x : World} {q r fb g p pm ns : Nat} {sh : Nat → Nat} {A : QSt} {age : List Nat} {use : Bool} {kept lost : Nat} {f : Nat → Value} {ga gc : Nat} {ea : Option Addr} {ec : Nat} (h : QAt x q r fb g p pm ns sh A age use kept lost f ga gc ea ec) {i : Nat} (hi : i + 1 = age.length) (k : Nat) :
    Calls Try.prog 64 #[.pointer (some ⟨q, 0, none⟩)] (x.drewN k) fun e y => e = .returned (.int .i64 (age[i]'(by omega) : Nat)) ∧ ∃ m, y = x.drewN m :=
  (now_at (h.keep0 ((Keep.refl [] x).drewN k)) hi).mono fun e y ⟨he, m, hm⟩ => ⟨he, k + m, by rw [hm, World.drewN_drewN]⟩
end Go.Proofs.Ytpinoejckagjbaa
