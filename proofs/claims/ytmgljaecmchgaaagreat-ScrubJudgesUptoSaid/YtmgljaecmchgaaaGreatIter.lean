/-
  DERIVED: THE SHELF's CONTRACTS AT THIS DUMP, IN PLAIN WORDS (tools/lay-plain.mjs out of 'TryzShelf.lean', which tools/lay-shelf.mjs wrote): THE SAME DECLARATIONS UNDER THE SAME NAMES: 'import', 'namespace', 'open', 'def', 'theorem' AND NOTHING ELSE: no command of the shelf's: FOR A HAND-IN. Each laying: the table of numbers ('.._ren') and one theorem, a field a fact of the dump's own or the kernel's comparison; each contract: ONE APPLICATION.
-/
import Derived.Shelf.SlIter.Nil
import Derived.Shelf.SlMaps.Clone
import Derived.Test.YtmgljaecmchgaaaGreatProg
namespace Go.Proofs
open Go.Shelf
def Tryz.keys96_ren : Go.Shelf.Ren := ⟨fun | 7 => 96 | 10 => 114 | n => n, fun | 23 => 151 | 26 => 9 | 3 => 148 | 28 => 207 | 0 => 0 | 27 => 206 | 33 => 134 | 4 => 4 | n => n, fun | n => n⟩
theorem Tryz.keys96 : Go.Proofs.SlLaysZ.n7 Tryz.prog Tryz.keys96_ren := {
  mixed := by kernel_rfl
  f7 := ⟨Tryz.f96.name, by decide, Tryz.func96.trans (congrArg some (by kernel_rfl))⟩
  f10 := ⟨Tryz.f114.name, by decide, Tryz.func114.trans (congrArg some (by kernel_rfl))⟩
  t0 := Tryz.underlying0
  a0 := Tryz.isAgg0
  z0 := Tryz.sizeOf0
  v0 := Tryz.zeroValue0
  t4 := Tryz.underlying4
  a4 := Tryz.isAgg4
  z4 := Tryz.sizeOf4
  v4 := Tryz.zeroValue4
  t23 := Tryz.underlying151
  a23 := Tryz.isAgg151
  z23 := Tryz.sizeOf151
  v23 := Tryz.zeroValue151
  t26 := Tryz.underlying9
  a26 := Tryz.isAgg9
  z26 := Tryz.sizeOf9
  v26 := Tryz.zeroValue9
  t27 := Tryz.underlying206
  a27 := Tryz.isAgg206
  z27 := Tryz.sizeOf206
  v27 := Tryz.zeroValue206
  t28 := Tryz.underlying207
  a28 := Tryz.isAgg207
  z28 := Tryz.sizeOf207
  v28 := Tryz.zeroValue207
  t33 := Tryz.underlying134
  a33 := Tryz.isAgg134
  z33 := Tryz.sizeOf134
  v33 := Tryz.zeroValue134 }
def Tryz.sorted95_ren : Go.Shelf.Ren := ⟨fun | 6 => 95 | 8 => 112 | 9 => 113 | 11 => 125 | 13 => 127 | 12 => 126 | 23 => 140 | 24 => 141 | 14 => 131 | 15 => 132 | 16 => 133 | 17 => 134 | 18 => 135 | 19 => 136 | 20 => 137 | 21 => 138 | 22 => 139 | 25 => 142 | 26 => 143 | 27 => 144 | 28 => 145 | 29 => 146 | 30 => 147 | 31 => 148 | n => n, fun | 26 => 9 | 28 => 207 | 24 => 185 | 0 => 0 | 3 => 3 | 37 => 195 | 48 => 256 | 50 => 258 | 4 => 4 | 40 => 248 | 39 => 247 | 45 => 253 | 5 => 5 | 9 => 9 | 51 => 259 | 55 => 263 | 57 => 265 | 58 => 131 | 33 => 134 | n => n, fun | n => n⟩
theorem Tryz.sorted95 : Go.Proofs.SlLaysZ.n6 Tryz.prog Tryz.sorted95_ren := {
  mixed := by kernel_rfl
  f6 := ⟨Tryz.f95.name, by decide, Tryz.func95.trans (congrArg some (by kernel_rfl))⟩
  f8 := ⟨Tryz.f112.name, by decide, Tryz.func112.trans (congrArg some (by kernel_rfl))⟩
  f11 := ⟨Tryz.f125.name, by decide, Tryz.func125.trans (congrArg some (by kernel_rfl))⟩
  t0 := Tryz.underlying0
  a0 := Tryz.isAgg0
  z0 := Tryz.sizeOf0
  v0 := Tryz.zeroValue0
  t24 := Tryz.underlying185
  a24 := Tryz.isAgg185
  z24 := Tryz.sizeOf185
  v24 := Tryz.zeroValue185
  t26 := Tryz.underlying9
  a26 := Tryz.isAgg9
  z26 := Tryz.sizeOf9
  v26 := Tryz.zeroValue9
  t28 := Tryz.underlying207
  a28 := Tryz.isAgg207
  z28 := Tryz.sizeOf207
  v28 := Tryz.zeroValue207
  i26 := by kernel_rfl }
end Go.Proofs
