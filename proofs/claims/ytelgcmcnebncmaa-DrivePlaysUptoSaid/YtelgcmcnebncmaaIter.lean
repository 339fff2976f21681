/-
  DERIVED: THE SHELF's CONTRACTS AT THIS DUMP, IN PLAIN WORDS (tools/lay-plain.mjs out of 'TryShelf.lean', which tools/lay-shelf.mjs wrote): THE SAME DECLARATIONS UNDER THE SAME NAMES: 'import', 'namespace', 'open', 'def', 'theorem' AND NOTHING ELSE: no command of the shelf's: FOR A HAND-IN. Each laying: the table of numbers ('.._ren') and one theorem, a field a fact of the dump's own or the kernel's comparison; each contract: ONE APPLICATION.
-/
import Derived.Shelf.SlIter.Nil
import Derived.Shelf.SlMaps.Clone
import Derived.Test.YtelgcmcnebncmaaProg
namespace Go.Proofs
open Go.Shelf
def Try.keys103_ren : Go.Shelf.Ren := ⟨fun | 7 => 103 | 10 => 107 | n => n, fun | 23 => 104 | 26 => 9 | 3 => 145 | 28 => 165 | 0 => 0 | 27 => 164 | 33 => 55 | 4 => 4 | n => n, fun | n => n⟩
theorem Try.keys103 : Go.Proofs.SlLaysZ.n7 Try.prog Try.keys103_ren := {
  mixed := by kernel_rfl
  f7 := ⟨Try.f103.name, by decide, Try.func103.trans (congrArg some (by kernel_rfl))⟩
  f10 := ⟨Try.f107.name, by decide, Try.func107.trans (congrArg some (by kernel_rfl))⟩
  t0 := Try.underlying0
  a0 := Try.isAgg0
  z0 := Try.sizeOf0
  v0 := Try.zeroValue0
  t4 := Try.underlying4
  a4 := Try.isAgg4
  z4 := Try.sizeOf4
  v4 := Try.zeroValue4
  t23 := Try.underlying104
  a23 := Try.isAgg104
  z23 := Try.sizeOf104
  v23 := Try.zeroValue104
  t26 := Try.underlying9
  a26 := Try.isAgg9
  z26 := Try.sizeOf9
  v26 := Try.zeroValue9
  t27 := Try.underlying164
  a27 := Try.isAgg164
  z27 := Try.sizeOf164
  v27 := Try.zeroValue164
  t28 := Try.underlying165
  a28 := Try.isAgg165
  z28 := Try.sizeOf165
  v28 := Try.zeroValue165
  t33 := Try.underlying55
  a33 := Try.isAgg55
  z33 := Try.sizeOf55
  v33 := Try.zeroValue55 }
def Try.sorted102_ren : Go.Shelf.Ren := ⟨fun | 6 => 102 | 8 => 105 | 9 => 106 | 11 => 108 | 13 => 110 | 12 => 109 | 23 => 120 | 24 => 121 | 14 => 111 | 15 => 112 | 16 => 113 | 17 => 114 | 18 => 115 | 19 => 116 | 20 => 117 | 21 => 118 | 22 => 119 | 25 => 122 | 26 => 123 | 27 => 124 | 28 => 125 | 29 => 126 | 30 => 127 | 31 => 128 | n => n, fun | 26 => 9 | 28 => 165 | 24 => 36 | 0 => 0 | 3 => 3 | 37 => 172 | 48 => 182 | 50 => 184 | 4 => 4 | 40 => 175 | 39 => 174 | 45 => 179 | 5 => 5 | 9 => 9 | 51 => 185 | 55 => 189 | 57 => 191 | 58 => 118 | 33 => 55 | n => n, fun | n => n⟩
theorem Try.sorted102 : Go.Proofs.SlLaysZ.n6 Try.prog Try.sorted102_ren := {
  mixed := by kernel_rfl
  f6 := ⟨Try.f102.name, by decide, Try.func102.trans (congrArg some (by kernel_rfl))⟩
  f8 := ⟨Try.f105.name, by decide, Try.func105.trans (congrArg some (by kernel_rfl))⟩
  f11 := ⟨Try.f108.name, by decide, Try.func108.trans (congrArg some (by kernel_rfl))⟩
  t0 := Try.underlying0
  a0 := Try.isAgg0
  z0 := Try.sizeOf0
  v0 := Try.zeroValue0
  t24 := Try.underlying36
  a24 := Try.isAgg36
  z24 := Try.sizeOf36
  v24 := Try.zeroValue36
  t26 := Try.underlying9
  a26 := Try.isAgg9
  z26 := Try.sizeOf9
  v26 := Try.zeroValue9
  t28 := Try.underlying165
  a28 := Try.isAgg165
  z28 := Try.sizeOf165
  v28 := Try.zeroValue165
  i26 := by kernel_rfl }
def Try.clone91_ren : Go.Shelf.Ren := ⟨fun | 5 => 91 | 7 => 104 | n => n, fun | 23 => 104 | 25 => 9 | 3 => 145 | 4 => 4 | 20 => 20 | n => n, fun | n => n⟩
theorem Try.clone91 : Go.Proofs.SlLaysW.n5 Try.prog Try.clone91_ren := {
  mixed := by kernel_rfl
  f5 := ⟨Try.f91.name, by decide, Try.func91.trans (congrArg some (by kernel_rfl))⟩
  f7 := Try.func104.trans (congrArg some (by kernel_rfl))
  t4 := Try.underlying4
  a4 := Try.isAgg4
  z4 := Try.sizeOf4
  v4 := Try.zeroValue4
  t20 := Try.underlying20
  a20 := Try.isAgg20
  z20 := Try.sizeOf20
  v20 := Try.zeroValue20
  t23 := Try.underlying104
  a23 := Try.isAgg104
  z23 := Try.sizeOf104
  v23 := Try.zeroValue104 }
end Go.Proofs
