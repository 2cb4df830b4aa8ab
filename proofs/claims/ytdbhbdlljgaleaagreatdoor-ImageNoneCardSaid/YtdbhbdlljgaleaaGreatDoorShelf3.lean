/-
  DERIVED: THE SHELF's CONTRACTS AT THIS DUMP, IN PLAIN WORDS (tools/lay-plain.mjs out of 'YtdbhbdlljgaleaaGreatDoorShelf3.lean', which tools/lay-shelf.mjs wrote): THE SAME DECLARATIONS UNDER THE SAME NAMES: 'import', 'namespace', 'open', 'def', 'theorem' AND NOTHING ELSE: no command of the shelf's: FOR A HAND-IN. Each laying: the table of numbers ('.._ren') and one theorem, a field a fact of the dump's own or the kernel's comparison; each contract: ONE APPLICATION.
-/
import Derived.Shelf.SlIterI.Sorted
import Derived.Test.YtdbhbdlljgaleaaGreatDoorProg
namespace Go.Proofs
open Go.Shelf
def Tryz.sorted6_ren : Go.Shelf.Ren := ⟨fun | 6 => 92 | 8 => 119 | 9 => 120 | 11 => 146 | 13 => 98 | 12 => 147 | 23 => 132 | 24 => 133 | 14 => 164 | 15 => 165 | 16 => 166 | 17 => 167 | 18 => 168 | 19 => 169 | 20 => 170 | 21 => 171 | 22 => 172 | 25 => 180 | 26 => 157 | 27 => 158 | 28 => 181 | 29 => 182 | 30 => 99 | 31 => 185 | n => n, fun | 26 => 3 | 28 => 177 | 24 => 132 | 0 => 0 | 3 => 3 | 37 => 186 | 48 => 217 | 50 => 197 | 4 => 4 | 40 => 210 | 39 => 209 | 45 => 214 | 5 => 5 | 9 => 9 | 51 => 238 | 55 => 242 | 57 => 254 | 58 => 255 | 33 => 118 | n => n, fun | n => n⟩
theorem Tryz.sorted6 : Go.Proofs.SlLaysZI.n6 Tryz.prog Tryz.sorted6_ren := {
  mixed := by kernel_rfl
  f6 := ⟨Tryz.f92.name, by decide, Tryz.func92.trans (congrArg some (by kernel_rfl))⟩
  f8 := ⟨Tryz.f119.name, by decide, Tryz.func119.trans (congrArg some (by kernel_rfl))⟩
  f11 := ⟨Tryz.f146.name, by decide, Tryz.func146.trans (congrArg some (by kernel_rfl))⟩
  t0 := Tryz.underlying0
  a0 := Tryz.isAgg0
  z0 := Tryz.sizeOf0
  v0 := Tryz.zeroValue0
  t24 := Tryz.underlying132
  a24 := Tryz.isAgg132
  z24 := Tryz.sizeOf132
  v24 := Tryz.zeroValue132
  t26 := Tryz.underlying3
  a26 := Tryz.isAgg3
  z26 := Tryz.sizeOf3
  v26 := Tryz.zeroValue3
  t28 := Tryz.underlying177
  a28 := Tryz.isAgg177
  z28 := Tryz.sizeOf177
  v28 := Tryz.zeroValue177
  i26 := by kernel_rfl }
end Go.Proofs
