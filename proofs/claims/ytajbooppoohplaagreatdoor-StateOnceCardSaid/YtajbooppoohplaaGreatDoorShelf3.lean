/-
  DERIVED: THE SHELF's CONTRACTS AT THIS DUMP, IN PLAIN WORDS (tools/lay-plain.mjs out of 'YtajbooppoohplaaGreatDoorShelf3.lean', which tools/lay-shelf.mjs wrote): THE SAME DECLARATIONS UNDER THE SAME NAMES: 'import', 'namespace', 'open', 'def', 'theorem' AND NOTHING ELSE: no command of the shelf's: FOR A HAND-IN. Each laying: the table of numbers ('.._ren') and one theorem, a field a fact of the dump's own or the kernel's comparison; each contract: ONE APPLICATION.
-/
import Derived.Shelf.SlIterI.Sorted
import Derived.Test.YtajbooppoohplaaGreatDoorProg
namespace Go.Proofs
open Go.Shelf
def Tryz.sorted6_ren : Go.Shelf.Ren := ⟨fun | 6 => 92 | 8 => 147 | 9 => 148 | 11 => 205 | 13 => 145 | 12 => 206 | 23 => 203 | 24 => 204 | 14 => 237 | 15 => 238 | 16 => 239 | 17 => 240 | 18 => 241 | 19 => 242 | 20 => 243 | 21 => 244 | 22 => 245 | 25 => 255 | 26 => 233 | 27 => 234 | 28 => 256 | 29 => 257 | 30 => 146 | 31 => 263 | n => n, fun | 26 => 3 | 28 => 186 | 24 => 114 | 0 => 0 | 3 => 3 | 37 => 219 | 48 => 279 | 50 => 216 | 4 => 4 | 40 => 273 | 39 => 272 | 45 => 207 | 5 => 5 | 9 => 9 | 51 => 305 | 55 => 309 | 57 => 324 | 58 => 325 | 33 => 149 | n => n, fun | n => n⟩
theorem Tryz.sorted6 : Go.Proofs.SlLaysZI.n6 Tryz.prog Tryz.sorted6_ren := {
  mixed := by kernel_rfl
  f6 := ⟨Tryz.f92.name, by decide, Tryz.func92.trans (congrArg some (by kernel_rfl))⟩
  f8 := ⟨Tryz.f147.name, by decide, Tryz.func147.trans (congrArg some (by kernel_rfl))⟩
  f11 := ⟨Tryz.f205.name, by decide, Tryz.func205.trans (congrArg some (by kernel_rfl))⟩
  t0 := Tryz.underlying0
  a0 := Tryz.isAgg0
  z0 := Tryz.sizeOf0
  v0 := Tryz.zeroValue0
  t24 := Tryz.underlying114
  a24 := Tryz.isAgg114
  z24 := Tryz.sizeOf114
  v24 := Tryz.zeroValue114
  t26 := Tryz.underlying3
  a26 := Tryz.isAgg3
  z26 := Tryz.sizeOf3
  v26 := Tryz.zeroValue3
  t28 := Tryz.underlying186
  a28 := Tryz.isAgg186
  z28 := Tryz.sizeOf186
  v28 := Tryz.zeroValue186
  i26 := by kernel_rfl }
end Go.Proofs
