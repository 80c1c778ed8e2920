/- The digest's tables, out of the row's condition. -/
import Derived.Test.YtldppmjjgljinaaGreatDoorPathEnv
import Derived.Test.YtldppmjjgljinaaGreatDoorShaI
namespace Go.Proofs.YtldppmjjgljinaaGreatDoor
open Go.RowKit

def rootsTab : List Int := kTab.map fun (n : Nat) => (n : Int)
def firstTab : List Int := first8.list.map fun x => (x.toNat : Int)
theorem roots_data : (Lib.tabData .u32 rootsTab : DataW Unit) = Rows.laid_caravan_sha_roots := by kernel_rfl
theorem first_data : (Lib.tabData .u32 firstTab : DataW Unit) = Rows.laid_caravan_sha_first := by kernel_rfl
theorem sha_of {laid : List (String × DataW Unit)} {W : World} (hl : laidMet Tryz.prog laid W) (i j : Nat) (h1 : laid[i]? = some ("caravan/sha.first", Rows.laid_caravan_sha_first)) (h2 : laid[j]? = some ("caravan/sha.roots", Rows.laid_caravan_sha_roots)) : ShaTabs W := by
  obtain ⟨_, h, _⟩ := hl
  have t1 : Lib.TabIs Tryz.prog W "caravan/sha.first" .u32 firstTab := tabIs_of_mem (g := 0) (t := 246) (e := 26) (n := 8) (by kernel_rfl) (by kernel_rfl) (by kernel_rfl) (by kernel_rfl) (by kernel_rfl) (by kernel_rfl) h (by rw [first_data]; exact List.mem_of_getElem? h1)
  have t2 : Lib.TabIs Tryz.prog W "caravan/sha.roots" .u32 rootsTab := tabIs_of_mem (g := 1) (t := 280) (e := 26) (n := 64) (by kernel_rfl) (by kernel_rfl) (by kernel_rfl) (by kernel_rfl) (by kernel_rfl) (by kernel_rfl) h (by rw [roots_data]; exact List.mem_of_getElem? h2)
  refine ⟨fun k hk => ?_, fun k x hx => ?_⟩
  · have := t2.cell (g := 1) (by kernel_rfl) k (by simpa [rootsTab, kTab] using hk)
    rw [this, show rootsTab.getD k 0 = ((kAt k).toNat : Int) from ?_]
    have hs : ∀ j, j < 64 → rootsTab.getD j 0 = ((kAt j).toNat : Int) := by decide
    exact hs k hk
  · have hk : k < 8 := (List.getElem?_eq_some_iff.1 hx).1
    have := t1.cell (g := 0) (by kernel_rfl) k (by simpa [firstTab, V8.list] using hk)
    rw [this]
    unfold firstTab wv
    rw [List.getD_eq_getElem?_getD, List.getElem?_map, hx]; rfl
end Go.Proofs.YtldppmjjgljinaaGreatDoor
