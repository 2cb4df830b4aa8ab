/-
  DERIVED: THE SHELF's CONTRACTS AT THIS DUMP, IN PLAIN WORDS (tools/lay-plain.mjs out of 'YtpfcomepecgcmaaGreatDoorShelf3.lean', which tools/lay-shelf.mjs wrote): THE SAME DECLARATIONS UNDER THE SAME NAMES: 'import', 'namespace', 'open', 'def', 'theorem' AND NOTHING ELSE: no command of the shelf's: FOR A HAND-IN. Each laying: the table of numbers ('.._ren') and one theorem, a field a fact of the dump's own or the kernel's comparison; each contract: ONE APPLICATION.
-/
import Derived.Shelf.SlIterI.Sorted
import Derived.Test.YtpfcomepecgcmaaGreatDoorProg
namespace Go.Proofs
open Go.Shelf
def Tryz.sorted6_ren : Go.Shelf.Ren := ⟨fun | 6 => 91 | 8 => 118 | 9 => 119 | 11 => 145 | 13 => 97 | 12 => 146 | 23 => 131 | 24 => 132 | 14 => 163 | 15 => 164 | 16 => 165 | 17 => 166 | 18 => 167 | 19 => 168 | 20 => 169 | 21 => 170 | 22 => 171 | 25 => 179 | 26 => 156 | 27 => 157 | 28 => 180 | 29 => 181 | 30 => 98 | 31 => 184 | n => n, fun | 26 => 3 | 28 => 177 | 24 => 132 | 0 => 0 | 3 => 3 | 37 => 186 | 48 => 217 | 50 => 197 | 4 => 4 | 40 => 210 | 39 => 209 | 45 => 214 | 5 => 5 | 9 => 9 | 51 => 238 | 55 => 242 | 57 => 254 | 58 => 255 | 33 => 118 | n => n, fun | n => n⟩
theorem Tryz.sorted6 : Go.Proofs.SlLaysZI.n6 Tryz.prog Tryz.sorted6_ren := {
  mixed := by kernel_rfl
  f6 := ⟨Tryz.f91.name, by decide, Tryz.func91.trans (congrArg some (by kernel_rfl))⟩
  f8 := ⟨Tryz.f118.name, by decide, Tryz.func118.trans (congrArg some (by kernel_rfl))⟩
  f11 := ⟨Tryz.f145.name, by decide, Tryz.func145.trans (congrArg some (by kernel_rfl))⟩
  t0 := Tryz.underlying0
  a0 := Tryz.isAgg0
  z0 := Tryz.sizeOf0
  v0 := Tryz.zeroValue0
  t24 := Tryz.underlying132
  a24 := Tryz.isAgg132
  z24 := Tryz.sizeOf132
  v24 := Tryz.zeroValue132
  t26 := Tryz.underlying3
  a26 := Tryz.isAgg3
  z26 := Tryz.sizeOf3
  v26 := Tryz.zeroValue3
  t28 := Tryz.underlying177
  a28 := Tryz.isAgg177
  z28 := Tryz.sizeOf177
  v28 := Tryz.zeroValue177
  i26 := by kernel_rfl }
end Go.Proofs
