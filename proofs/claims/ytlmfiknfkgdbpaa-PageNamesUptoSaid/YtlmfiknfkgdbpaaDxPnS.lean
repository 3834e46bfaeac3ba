/-
  DERIVED: THE SHELF's CONTRACTS AT THIS DUMP, IN PLAIN WORDS (tools/lay-plain.mjs out of 'TryShelf.lean', which tools/lay-shelf.mjs wrote): THE SAME DECLARATIONS UNDER THE SAME NAMES: 'import', 'namespace', 'open', 'def', 'theorem' AND NOTHING ELSE: no command of the shelf's: FOR A HAND-IN. Each laying: the table of numbers ('.._ren') and one theorem, a field a fact of the dump's own or the kernel's comparison; each contract: ONE APPLICATION.
-/
import Derived.Shelf.Small.Bits
import Derived.Shelf.Strconv.Itoa0
import Derived.Shelf.Sort.Plain
import Derived.Shelf.Slices.Equal
import Derived.Shelf.Slices.In.SortNone
import Derived.Shelf.Slices.In.SortNone2
import Derived.Shelf.Slices.Empties2
import Derived.Test.YtlmfiknfkgdbpaaProg
set_option linter.unusedVariables false
set_option linter.unusedSimpArgs false
namespace Go.Proofs
open Go.Shelf
def Try.lays192_ren : Go.Shelf.Ren := ⟨fun | 192 => 13 | 190 => 14 | 125 => 16 | 258 => 15 | 128 => 26 | 129 => 27 | 302 => 17 | 303 => 18 | 304 => 19 | 305 => 20 | 306 => 21 | 307 => 22 | 308 => 23 | 309 => 24 | 310 => 25 | 333 => 28 | 329 => 29 | 330 => 30 | 334 => 31 | 335 => 32 | 336 => 33 | 344 => 34 | n => n, fun | 31 => 25 | 0 => 0 | 9 => 9 | 3 => 3 | 46 => 40 | 51 => 51 | 53 => 53 | 4 => 4 | 183 => 43 | 182 => 42 | 131 => 48 | 5 => 5 | 218 => 54 | 222 => 58 | 228 => 61 | 229 => 62 | n => n, fun | n => n⟩
theorem Try.lays192 : Go.Proofs.Lays.n192 Try.prog Try.lays192_ren := {
  mixed := by kernel_rfl
  f125 := Try.func16.trans (congrArg some (by kernel_rfl))
  f128 := Try.func26.trans (congrArg some (by kernel_rfl))
  f129 := Try.func27.trans (congrArg some (by kernel_rfl))
  f190 := Try.func14.trans (congrArg some (by kernel_rfl))
  f192 := Try.func13.trans (congrArg some (by kernel_rfl))
  f258 := Try.func15.trans (congrArg some (by kernel_rfl))
  f302 := Try.func17.trans (congrArg some (by kernel_rfl))
  f303 := Try.func18.trans (congrArg some (by kernel_rfl))
  f304 := Try.func19.trans (congrArg some (by kernel_rfl))
  f305 := Try.func20.trans (congrArg some (by kernel_rfl))
  f306 := Try.func21.trans (congrArg some (by kernel_rfl))
  f307 := Try.func22.trans (congrArg some (by kernel_rfl))
  f308 := Try.func23.trans (congrArg some (by kernel_rfl))
  f309 := Try.func24.trans (congrArg some (by kernel_rfl))
  f310 := Try.func25.trans (congrArg some (by kernel_rfl))
  f329 := Try.func29.trans (congrArg some (by kernel_rfl))
  f330 := Try.func30.trans (congrArg some (by kernel_rfl))
  f333 := Try.func28.trans (congrArg some (by kernel_rfl))
  f334 := Try.func31.trans (congrArg some (by kernel_rfl))
  f335 := Try.func32.trans (congrArg some (by kernel_rfl))
  f336 := Try.func33.trans (congrArg some (by kernel_rfl))
  f344 := Try.func34.trans (congrArg some (by kernel_rfl))
  t0 := Try.underlying0
  a0 := Try.isAgg0
  z0 := Try.sizeOf0
  v0 := Try.zeroValue0
  t3 := Try.underlying3
  a3 := Try.isAgg3
  z3 := Try.sizeOf3
  v3 := Try.zeroValue3
  t4 := Try.underlying4
  a4 := Try.isAgg4
  z4 := Try.sizeOf4
  v4 := Try.zeroValue4
  t5 := Try.underlying5
  a5 := Try.isAgg5
  z5 := Try.sizeOf5
  v5 := Try.zeroValue5
  t9 := Try.underlying9
  a9 := Try.isAgg9
  z9 := Try.sizeOf9
  v9 := Try.zeroValue9
  t31 := Try.underlying25
  a31 := Try.isAgg25
  z31 := Try.sizeOf25
  v31 := Try.zeroValue25
  t46 := Try.underlying40
  a46 := Try.isAgg40
  z46 := Try.sizeOf40
  v46 := Try.zeroValue40
  t51 := Try.underlying51
  a51 := Try.isAgg51
  z51 := Try.sizeOf51
  v51 := Try.zeroValue51
  t53 := Try.underlying53
  a53 := Try.isAgg53
  z53 := Try.sizeOf53
  v53 := Try.zeroValue53
  t131 := Try.underlying48
  a131 := Try.isAgg48
  z131 := Try.sizeOf48
  v131 := Try.zeroValue48
  t182 := Try.underlying42
  a182 := Try.isAgg42
  z182 := Try.sizeOf42
  v182 := Try.zeroValue42
  t183 := Try.underlying43
  a183 := Try.isAgg43
  z183 := Try.sizeOf43
  v183 := Try.zeroValue43
  t218 := Try.underlying54
  a218 := Try.isAgg54
  z218 := Try.sizeOf54
  v218 := Try.zeroValue54
  t222 := Try.underlying58
  a222 := Try.isAgg58
  z222 := Try.sizeOf58
  v222 := Try.zeroValue58
  t228 := Try.underlying61
  a228 := Try.isAgg61
  z228 := Try.sizeOf61
  v228 := Try.zeroValue61
  t229 := Try.underlying62
  a229 := Try.isAgg62
  z229 := Try.sizeOf62
  v229 := Try.zeroValue62 }
open Go.Sort Go.RowKit in
theorem Try.sort_Strings (blk off cap : Nat) (ss : List (List UInt8)) (w : World) (hH : Holds encStr w blk off ss.toArray) (hblk : blk < w.heap.size) (hsz : ss.length < 4611686018427387904) :
    Calls Try.prog 13 #[.slice (some ⟨blk, off, none⟩) ss.length cap] w fun e w' =>
      e = .returned (.tuple #[]) ∧ ∃ n os, w' = grow (putRow encStr (Sort.ahead w n) blk off (ss.mergeSort fun x y => decide (x ≤ y)).toArray) os := Any.sort_Strings Try.lays192 blk off cap ss w hH hblk hsz
open Go.RowKit Go.Sort in
/-- .. and plain. (LAID: no walk: one application.) -/
theorem Try.sort_Strings_none (p : Option Addr) (cap : Nat) (w : World) :
    Calls Try.prog 13 #[.slice p 0 cap] w fun e w' => e = .returned (.tuple #[]) ∧ w' = w := Any.sort_Strings_none Try.lays192 p cap w
end Go.Proofs
