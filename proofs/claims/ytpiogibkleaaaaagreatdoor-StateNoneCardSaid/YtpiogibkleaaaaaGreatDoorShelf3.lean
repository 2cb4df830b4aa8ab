/-
  DERIVED: THE SHELF's CONTRACTS AT THIS DUMP, IN PLAIN WORDS (tools/lay-plain.mjs out of 'YtpiogibkleaaaaaGreatDoorShelf3.lean', which tools/lay-shelf.mjs wrote): THE SAME DECLARATIONS UNDER THE SAME NAMES: 'import', 'namespace', 'open', 'def', 'theorem' AND NOTHING ELSE: no command of the shelf's: FOR A HAND-IN. Each laying: the table of numbers ('.._ren') and one theorem, a field a fact of the dump's own or the kernel's comparison; each contract: ONE APPLICATION.
-/
import Derived.Shelf.SlIterI.Sorted
import Derived.Test.YtpiogibkleaaaaaGreatDoorProg
namespace Go.Proofs
open Go.Shelf
def Tryz.sorted6_ren : Go.Shelf.Ren := ⟨fun | 6 => 128 | 8 => 180 | 9 => 181 | 11 => 212 | 13 => 134 | 12 => 213 | 23 => 193 | 24 => 194 | 14 => 232 | 15 => 233 | 16 => 234 | 17 => 235 | 18 => 236 | 19 => 237 | 20 => 238 | 21 => 239 | 22 => 240 | 25 => 250 | 26 => 223 | 27 => 224 | 28 => 251 | 29 => 252 | 30 => 135 | 31 => 258 | n => n, fun | 26 => 3 | 28 => 221 | 24 => 157 | 0 => 0 | 3 => 3 | 37 => 200 | 48 => 271 | 50 => 197 | 4 => 4 | 40 => 265 | 39 => 264 | 45 => 191 | 5 => 5 | 9 => 9 | 51 => 302 | 55 => 306 | 57 => 321 | 58 => 322 | 33 => 132 | n => n, fun | n => n⟩
theorem Tryz.sorted6 : Go.Proofs.SlLaysZI.n6 Tryz.prog Tryz.sorted6_ren := {
  mixed := by kernel_rfl
  f6 := ⟨Tryz.f128.name, by decide, Tryz.func128.trans (congrArg some (by kernel_rfl))⟩
  f8 := ⟨Tryz.f180.name, by decide, Tryz.func180.trans (congrArg some (by kernel_rfl))⟩
  f11 := ⟨Tryz.f212.name, by decide, Tryz.func212.trans (congrArg some (by kernel_rfl))⟩
  t0 := Tryz.underlying0
  a0 := Tryz.isAgg0
  z0 := Tryz.sizeOf0
  v0 := Tryz.zeroValue0
  t24 := Tryz.underlying157
  a24 := Tryz.isAgg157
  z24 := Tryz.sizeOf157
  v24 := Tryz.zeroValue157
  t26 := Tryz.underlying3
  a26 := Tryz.isAgg3
  z26 := Tryz.sizeOf3
  v26 := Tryz.zeroValue3
  t28 := Tryz.underlying221
  a28 := Tryz.isAgg221
  z28 := Tryz.sizeOf221
  v28 := Tryz.zeroValue221
  i26 := by kernel_rfl }
end Go.Proofs
