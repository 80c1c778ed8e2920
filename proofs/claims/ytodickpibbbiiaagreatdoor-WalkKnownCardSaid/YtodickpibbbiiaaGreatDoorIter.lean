/-
  DERIVED: THE SHELF's CONTRACTS AT THIS DUMP, IN PLAIN WORDS (tools/lay-plain.mjs out of 'YtodickpibbbiiaaGreatDoorIterRaw.lean', which tools/lay-shelf.mjs wrote): THE SAME DECLARATIONS UNDER THE SAME NAMES: 'import', 'namespace', 'open', 'def', 'theorem' AND NOTHING ELSE: no command of the shelf's: FOR A HAND-IN. Each laying: the table of numbers ('.._ren') and one theorem, a field a fact of the dump's own or the kernel's comparison; each contract: ONE APPLICATION.
-/
import Derived.Shelf.SlGeneric
import Derived.Ground.SlmcProg
import Derived.Ground.GgzProg
import Derived.Ground.SlgnProg
import Derived.Shelf.SlMaps.Clone
import Derived.Shelf.SlIter.Collect
import Derived.Shelf.SlicesE.Clone
import Derived.Test.YtodickpibbbiiaaGreatDoorProg
namespace Go.Proofs
open Go.Shelf
def Tryz.mapsClone_ren : Go.Shelf.Ren := ⟨fun | 5 => 173 | 7 => 243 | n => n, fun | 23 => 172 | 25 => 9 | 3 => 84 | 4 => 4 | 20 => 20 | n => n, fun | n => n⟩
theorem Tryz.mapsClone : Go.Proofs.SlLaysW.n5 Tryz.prog Tryz.mapsClone_ren := {
  mixed := by kernel_rfl
  f5 := ⟨Tryz.f173.name, by decide, Tryz.func173.trans (congrArg some (by kernel_rfl))⟩
  f7 := Tryz.func243.trans (congrArg some (by kernel_rfl))
  t4 := Tryz.underlying4
  a4 := Tryz.isAgg4
  z4 := Tryz.sizeOf4
  v4 := Tryz.zeroValue4
  t20 := Tryz.underlying20
  a20 := Tryz.isAgg20
  z20 := Tryz.sizeOf20
  v20 := Tryz.zeroValue20
  t23 := Tryz.underlying172
  a23 := Tryz.isAgg172
  z23 := Tryz.sizeOf172
  v23 := Tryz.zeroValue172 }
def Tryz.mapsKeys_ren : Go.Shelf.Ren := ⟨fun | 7 => 146 | 10 => 217 | n => n, fun | 23 => 172 | 26 => 9 | 3 => 84 | 28 => 241 | 0 => 0 | 27 => 240 | 33 => 64 | 4 => 4 | n => n, fun | n => n⟩
theorem Tryz.mapsKeys : Go.Proofs.SlLaysZ.n7 Tryz.prog Tryz.mapsKeys_ren := {
  mixed := by kernel_rfl
  f7 := ⟨Tryz.f146.name, by decide, Tryz.func146.trans (congrArg some (by kernel_rfl))⟩
  f10 := ⟨Tryz.f217.name, by decide, Tryz.func217.trans (congrArg some (by kernel_rfl))⟩
  t0 := Tryz.underlying0
  a0 := Tryz.isAgg0
  z0 := Tryz.sizeOf0
  v0 := Tryz.zeroValue0
  t4 := Tryz.underlying4
  a4 := Tryz.isAgg4
  z4 := Tryz.sizeOf4
  v4 := Tryz.zeroValue4
  t23 := Tryz.underlying172
  a23 := Tryz.isAgg172
  z23 := Tryz.sizeOf172
  v23 := Tryz.zeroValue172
  t26 := Tryz.underlying9
  a26 := Tryz.isAgg9
  z26 := Tryz.sizeOf9
  v26 := Tryz.zeroValue9
  t27 := Tryz.underlying240
  a27 := Tryz.isAgg240
  z27 := Tryz.sizeOf240
  v27 := Tryz.zeroValue240
  t28 := Tryz.underlying241
  a28 := Tryz.isAgg241
  z28 := Tryz.sizeOf241
  v28 := Tryz.zeroValue241
  t33 := Tryz.underlying64
  a33 := Tryz.isAgg64
  z33 := Tryz.sizeOf64
  v33 := Tryz.zeroValue64 }
def Tryz.collect_ren : Go.Shelf.Ren := ⟨fun | 8 => 215 | 11 => 271 | n => n, fun | 26 => 9 | 28 => 241 | 24 => 35 | 0 => 0 | 33 => 64 | 4 => 4 | n => n, fun | n => n⟩
theorem Tryz.collect : Go.Proofs.SlLaysZ.n8 Tryz.prog Tryz.collect_ren := {
  mixed := by kernel_rfl
  f8 := ⟨Tryz.f215.name, by decide, Tryz.func215.trans (congrArg some (by kernel_rfl))⟩
  f11 := ⟨Tryz.f271.name, by decide, Tryz.func271.trans (congrArg some (by kernel_rfl))⟩
  t0 := Tryz.underlying0
  a0 := Tryz.isAgg0
  z0 := Tryz.sizeOf0
  v0 := Tryz.zeroValue0
  t24 := Tryz.underlying35
  a24 := Tryz.isAgg35
  z24 := Tryz.sizeOf35
  v24 := Tryz.zeroValue35
  t26 := Tryz.underlying9
  a26 := Tryz.isAgg9
  z26 := Tryz.sizeOf9
  v26 := Tryz.zeroValue9
  t28 := Tryz.underlying241
  a28 := Tryz.isAgg241
  z28 := Tryz.sizeOf241
  v28 := Tryz.zeroValue241
  i26 := by kernel_rfl }
def Tryz.cloneEffects_ren : Go.Shelf.Ren := ⟨fun | 41 => 144 | n => n, fun | 22 => 176 | 23 => 238 | 4 => 4 | n => n, fun | n => n⟩
theorem Tryz.cloneEffects : Go.Proofs.SlLaysE0.n41 Tryz.prog Tryz.cloneEffects_ren := {
  mixed := by kernel_rfl
  f41 := ⟨Tryz.f144.name, by decide, Tryz.func144.trans (congrArg some (by kernel_rfl))⟩
  t4 := Tryz.underlying4
  a4 := Tryz.isAgg4
  z4 := Tryz.sizeOf4
  v4 := Tryz.zeroValue4
  t22 := Tryz.underlying176
  a22 := Tryz.isAgg176
  z22 := Tryz.sizeOf176
  v22 := Tryz.zeroValue176 }
end Go.Proofs
