/-
  DERIVED: THE SHELF's CONTRACTS AT THIS DUMP, IN PLAIN WORDS (tools/lay-plain.mjs out of 'TryHandShelf.lean', which tools/lay-shelf.mjs wrote): THE SAME DECLARATIONS UNDER THE SAME NAMES: 'import', 'namespace', 'open', 'def', 'theorem' AND NOTHING ELSE: no command of the shelf's: FOR A HAND-IN. Each laying: the table of numbers ('.._ren') and one theorem, a field a fact of the dump's own or the kernel's comparison; each contract: ONE APPLICATION.
-/
import Derived.Shelf.SortG.Plain
import Derived.Shelf.SortG.SortNone
import Derived.Test.YtbfilhpgekgmbaaProg
namespace Go.Proofs
open Go.Shelf
def Try.laysSortI_ren : Go.Shelf.Ren := ⟨fun | 53 => 89 | 64 => 98 | 63 => 97 | 78 => 112 | 79 => 113 | 70 => 103 | 71 => 104 | 72 => 105 | 73 => 106 | 74 => 107 | 75 => 108 | 59 => 109 | 76 => 110 | 77 => 111 | 88 => 116 | 89 => 117 | 90 => 118 | 91 => 119 | 92 => 120 | 68 => 121 | 96 => 122 | n => n, fun | 22 => 73 | 23 => 2 | 3 => 3 | 51 => 117 | 0 => 0 | 67 => 128 | 69 => 130 | 4 => 4 | 61 => 120 | 60 => 119 | 44 => 125 | 5 => 5 | 9 => 9 | 75 => 131 | 79 => 135 | 83 => 137 | 84 => 138 | n => n, fun | n => n⟩
theorem Try.laysSortI : Go.Proofs.SlLaysN.n53 Try.prog Try.laysSortI_ren := {
  mixed := by kernel_rfl
  f53 := ⟨Try.f89.name, by decide, Try.func89.trans (congrArg some (by kernel_rfl))⟩
  f59 := ⟨Try.f109.name, by decide, Try.func109.trans (congrArg some (by kernel_rfl))⟩
  f63 := ⟨Try.f97.name, by decide, Try.func97.trans (congrArg some (by kernel_rfl))⟩
  f64 := Try.func98.trans (congrArg some (by kernel_rfl))
  f68 := ⟨Try.f121.name, by decide, Try.func121.trans (congrArg some (by kernel_rfl))⟩
  f70 := ⟨Try.f103.name, by decide, Try.func103.trans (congrArg some (by kernel_rfl))⟩
  f71 := ⟨Try.f104.name, by decide, Try.func104.trans (congrArg some (by kernel_rfl))⟩
  f72 := ⟨Try.f105.name, by decide, Try.func105.trans (congrArg some (by kernel_rfl))⟩
  f73 := ⟨Try.f106.name, by decide, Try.func106.trans (congrArg some (by kernel_rfl))⟩
  f74 := ⟨Try.f107.name, by decide, Try.func107.trans (congrArg some (by kernel_rfl))⟩
  f75 := ⟨Try.f108.name, by decide, Try.func108.trans (congrArg some (by kernel_rfl))⟩
  f76 := ⟨Try.f110.name, by decide, Try.func110.trans (congrArg some (by kernel_rfl))⟩
  f77 := ⟨Try.f111.name, by decide, Try.func111.trans (congrArg some (by kernel_rfl))⟩
  f78 := Try.func112.trans (congrArg some (by kernel_rfl))
  f79 := Try.func113.trans (congrArg some (by kernel_rfl))
  f88 := ⟨Try.f116.name, by decide, Try.func116.trans (congrArg some (by kernel_rfl))⟩
  f89 := Try.func117.trans (congrArg some (by kernel_rfl))
  f90 := Try.func118.trans (congrArg some (by kernel_rfl))
  f91 := ⟨Try.f119.name, by decide, Try.func119.trans (congrArg some (by kernel_rfl))⟩
  f92 := ⟨Try.f120.name, by decide, Try.func120.trans (congrArg some (by kernel_rfl))⟩
  f96 := ⟨Try.f122.name, by decide, Try.func122.trans (congrArg some (by kernel_rfl))⟩
  t0 := Try.underlying0
  a0 := Try.isAgg0
  z0 := Try.sizeOf0
  v0 := Try.zeroValue0
  t3 := Try.underlying3
  a3 := Try.isAgg3
  z3 := Try.sizeOf3
  v3 := Try.zeroValue3
  t4 := Try.underlying4
  a4 := Try.isAgg4
  z4 := Try.sizeOf4
  v4 := Try.zeroValue4
  t5 := Try.underlying5
  a5 := Try.isAgg5
  z5 := Try.sizeOf5
  v5 := Try.zeroValue5
  t9 := Try.underlying9
  a9 := Try.isAgg9
  z9 := Try.sizeOf9
  v9 := Try.zeroValue9
  t22 := Try.underlying73
  a22 := Try.isAgg73
  z22 := Try.sizeOf73
  v22 := Try.zeroValue73
  t23 := Try.underlying2
  a23 := Try.isAgg2
  z23 := Try.sizeOf2
  v23 := Try.zeroValue2
  t44 := Try.underlying125
  a44 := Try.isAgg125
  z44 := Try.sizeOf125
  v44 := Try.zeroValue125
  t51 := Try.underlying117
  a51 := Try.isAgg117
  z51 := Try.sizeOf117
  v51 := Try.zeroValue117
  t60 := Try.underlying119
  a60 := Try.isAgg119
  z60 := Try.sizeOf119
  v60 := Try.zeroValue119
  t61 := Try.underlying120
  a61 := Try.isAgg120
  z61 := Try.sizeOf120
  v61 := Try.zeroValue120
  t67 := Try.underlying128
  a67 := Try.isAgg128
  z67 := Try.sizeOf128
  v67 := Try.zeroValue128
  t69 := Try.underlying130
  a69 := Try.isAgg130
  z69 := Try.sizeOf130
  v69 := Try.zeroValue130
  t75 := Try.underlying131
  a75 := Try.isAgg131
  z75 := Try.sizeOf131
  v75 := Try.zeroValue131
  t79 := Try.underlying135
  a79 := Try.isAgg135
  z79 := Try.sizeOf135
  v79 := Try.zeroValue135
  t83 := Try.underlying137
  a83 := Try.isAgg137
  z83 := Try.sizeOf137
  v83 := Try.zeroValue137
  t84 := Try.underlying138
  a84 := Try.isAgg138
  z84 := Try.sizeOf138
  v84 := Try.zeroValue138 }
end Go.Proofs
