/-
  DERIVED: THE SHELF's CONTRACTS AT THIS DUMP, IN PLAIN WORDS (tools/lay-plain.mjs out of 'YtldppmjjgljinaaGreatDoorIterRaw.lean', which tools/lay-shelf.mjs wrote): THE SAME DECLARATIONS UNDER THE SAME NAMES: 'import', 'namespace', 'open', 'def', 'theorem' AND NOTHING ELSE: no command of the shelf's: FOR A HAND-IN. Each laying: the table of numbers ('.._ren') and one theorem, a field a fact of the dump's own or the kernel's comparison; each contract: ONE APPLICATION.
-/
import Derived.Shelf.SlGeneric
import Derived.Ground.SlmcProg
import Derived.Ground.GgzProg
import Derived.Ground.SlgnProg
import Derived.Shelf.SlMaps.Clone
import Derived.Shelf.SlIter.Collect
import Derived.Shelf.SlicesE.Clone
import Derived.Test.YtldppmjjgljinaaGreatDoorProg
namespace Go.Proofs
open Go.Shelf
def Tryz.mapsClone_ren : Go.Shelf.Ren := ⟨fun | 5 => 160 | 7 => 207 | n => n, fun | 23 => 142 | 25 => 9 | 3 => 57 | 4 => 4 | 20 => 20 | n => n, fun | n => n⟩
theorem Tryz.mapsClone : Go.Proofs.SlLaysW.n5 Tryz.prog Tryz.mapsClone_ren := {
  mixed := by kernel_rfl
  f5 := ⟨Tryz.f160.name, by decide, Tryz.func160.trans (congrArg some (by kernel_rfl))⟩
  f7 := Tryz.func207.trans (congrArg some (by kernel_rfl))
  t4 := Tryz.underlying4
  a4 := Tryz.isAgg4
  z4 := Tryz.sizeOf4
  v4 := Tryz.zeroValue4
  t20 := Tryz.underlying20
  a20 := Tryz.isAgg20
  z20 := Tryz.sizeOf20
  v20 := Tryz.zeroValue20
  t23 := Tryz.underlying142
  a23 := Tryz.isAgg142
  z23 := Tryz.sizeOf142
  v23 := Tryz.zeroValue142 }
def Tryz.mapsKeys_ren : Go.Shelf.Ren := ⟨fun | 7 => 91 | 10 => 155 | n => n, fun | 23 => 142 | 26 => 9 | 3 => 57 | 28 => 140 | 0 => 0 | 27 => 139 | 33 => 145 | 4 => 4 | n => n, fun | n => n⟩
theorem Tryz.mapsKeys : Go.Proofs.SlLaysZ.n7 Tryz.prog Tryz.mapsKeys_ren := {
  mixed := by kernel_rfl
  f7 := ⟨Tryz.f91.name, by decide, Tryz.func91.trans (congrArg some (by kernel_rfl))⟩
  f10 := ⟨Tryz.f155.name, by decide, Tryz.func155.trans (congrArg some (by kernel_rfl))⟩
  t0 := Tryz.underlying0
  a0 := Tryz.isAgg0
  z0 := Tryz.sizeOf0
  v0 := Tryz.zeroValue0
  t4 := Tryz.underlying4
  a4 := Tryz.isAgg4
  z4 := Tryz.sizeOf4
  v4 := Tryz.zeroValue4
  t23 := Tryz.underlying142
  a23 := Tryz.isAgg142
  z23 := Tryz.sizeOf142
  v23 := Tryz.zeroValue142
  t26 := Tryz.underlying9
  a26 := Tryz.isAgg9
  z26 := Tryz.sizeOf9
  v26 := Tryz.zeroValue9
  t27 := Tryz.underlying139
  a27 := Tryz.isAgg139
  z27 := Tryz.sizeOf139
  v27 := Tryz.zeroValue139
  t28 := Tryz.underlying140
  a28 := Tryz.isAgg140
  z28 := Tryz.sizeOf140
  v28 := Tryz.zeroValue140
  t33 := Tryz.underlying145
  a33 := Tryz.isAgg145
  z33 := Tryz.sizeOf145
  v33 := Tryz.zeroValue145 }
def Tryz.collect_ren : Go.Shelf.Ren := ⟨fun | 8 => 153 | 11 => 203 | n => n, fun | 26 => 9 | 28 => 140 | 24 => 54 | 0 => 0 | 33 => 145 | 4 => 4 | n => n, fun | n => n⟩
theorem Tryz.collect : Go.Proofs.SlLaysZ.n8 Tryz.prog Tryz.collect_ren := {
  mixed := by kernel_rfl
  f8 := ⟨Tryz.f153.name, by decide, Tryz.func153.trans (congrArg some (by kernel_rfl))⟩
  f11 := ⟨Tryz.f203.name, by decide, Tryz.func203.trans (congrArg some (by kernel_rfl))⟩
  t0 := Tryz.underlying0
  a0 := Tryz.isAgg0
  z0 := Tryz.sizeOf0
  v0 := Tryz.zeroValue0
  t24 := Tryz.underlying54
  a24 := Tryz.isAgg54
  z24 := Tryz.sizeOf54
  v24 := Tryz.zeroValue54
  t26 := Tryz.underlying9
  a26 := Tryz.isAgg9
  z26 := Tryz.sizeOf9
  v26 := Tryz.zeroValue9
  t28 := Tryz.underlying140
  a28 := Tryz.isAgg140
  z28 := Tryz.sizeOf140
  v28 := Tryz.zeroValue140
  i26 := by kernel_rfl }
def Tryz.cloneEffects_ren : Go.Shelf.Ren := ⟨fun | 41 => 95 | n => n, fun | 22 => 107 | 23 => 150 | 4 => 4 | n => n, fun | n => n⟩
theorem Tryz.cloneEffects : Go.Proofs.SlLaysE0.n41 Tryz.prog Tryz.cloneEffects_ren := {
  mixed := by kernel_rfl
  f41 := ⟨Tryz.f95.name, by decide, Tryz.func95.trans (congrArg some (by kernel_rfl))⟩
  t4 := Tryz.underlying4
  a4 := Tryz.isAgg4
  z4 := Tryz.sizeOf4
  v4 := Tryz.zeroValue4
  t22 := Tryz.underlying107
  a22 := Tryz.isAgg107
  z22 := Tryz.sizeOf107
  v22 := Tryz.zeroValue107 }
end Go.Proofs
