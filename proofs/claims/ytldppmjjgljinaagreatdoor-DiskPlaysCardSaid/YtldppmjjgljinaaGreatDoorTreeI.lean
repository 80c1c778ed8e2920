/- caravan/disk's tree: clone; a new one. -/
import Derived.Test.YtldppmjjgljinaaGreatDoorTreeH
import Derived.Test.YtldppmjjgljinaaGreatDoorIter
namespace Go.Proofs.YtldppmjjgljinaaGreatDoor
open Go.RowKit

theorem clone_end {w : World} {es : Array MapEntry} {clock U room : Nat} {l : Nodes} (HM : ∀ w2 : World, w2.heap[w.heap.size]? = some (.map es clock) → MapL w2 w.heap.size l) (hU : usedL l = U) :
    TreeAt (((w.alloc (.map es clock)).alloc (.cells #[.map (some w.heap.size), .int .i64 (U : Nat), .int .i64 (room : Nat)] 144 (0, 0))).drew) (w.heap.size + 1) w.heap.size l room ∧
    Ext w (((w.alloc (.map es clock)).alloc (.cells #[.map (some w.heap.size), .int .i64 (U : Nat), .int .i64 (room : Nat)] 144 (0, 0))).drew) := by
  subst hU
  refine ⟨⟨?_, HM _ ?_⟩, (((Ext.refl w).alloc _).alloc _).drew⟩
  · have := block_alloc_new (w.alloc (.map es clock)) (.cells #[.map (some w.heap.size), .int .i64 (usedL l : Nat), .int .i64 (room : Nat)] 144 (0, 0))
    rw [size_alloc] at this
    exact this
  · show ((w.alloc (.map es clock)).alloc _).heap[w.heap.size]? = _
    rw [block_alloc_old (by rw [size_alloc]; omega)]
    exact block_alloc_new _ _

set_option maxRecDepth 100000 in
set_option maxHeartbeats 2000000 in
theorem dclone_any (t m : Nat) (l : Nodes) (room : Nat) (w : World) (T : TreeAt w t m l room) :
    Calls Tryz.prog 94 #[.pointer (some ⟨t, 0, none⟩)] w
      fun e w' => e = .returned (.pointer (some ⟨w.heap.size + 1, 0, none⟩)) ∧ TreeAt w' (w.heap.size + 1) w.heap.size l room ∧ Ext w w' := by
  obtain ⟨hnd, hsm, D, ⟨es, clock, hb, hrest⟩, hread⟩ := T.map
  have HC := Lib.hid (AnyW.maps_Clone Tryz.mapsClone m es clock w.drew hb)
  have HM := Lib.hid (show ∀ w2, w2.heap[w.heap.size]? = some (.map es clock) → MapL w2 w.heap.size l from fun w2 h => ⟨hnd, hsm, D, ⟨es, clock, h, hrest⟩, hread⟩)
  have c0 : w.cell? ⟨t, 0, none⟩ = some (.map (some m)) := cellB T.blk
  have c1 : w.cell? ⟨t, 1, none⟩ = some (.int .i64 (usedL l : Nat)) := cellB T.blk
  have c2 : w.cell? ⟨t, 2, none⟩ = some (.int .i64 (room : Nat)) := cellB T.blk
  have hlt := (lt_of_tree T).1
  have HT := Lib.hid T
  clear T hnd hsm hrest hread hb
  obtain ⟨U, hU⟩ : ∃ U, usedL l = U := ⟨_, rfl⟩
  rw [hU] at c1
  have HU := Lib.hid hU
  clear hU
  go_enter Tryz.func94, Tryz.ntmps94
  go_wp2_with fail
  go_region_held (fun w' => w'.cell? ⟨t, 0, none⟩ = some (.map (some m)) ∧ w'.cell? ⟨t, 1, none⟩ = some (.int .i64 (U : Nat)) ∧ w'.cell? ⟨t, 2, none⟩ = some (.int .i64 (room : Nat))) (go_keep) ((go_at_call 160; refine (HC.out).mono ?_; rintro e w1 ⟨rfl, rfl⟩))
  go_wp2_with fail
  go_ret
  exact ⟨rfl, clone_end HM.out HU.out⟩

set_option maxHeartbeats 800000 in
/-- Of a nil map's tree nothing is asked; the map of a new disk is empty. -/
theorem TreeAt.fresh (w : World) (room : Nat) : TreeAt ((w.alloc (.map #[] 0)).alloc (.cells #[.map (some w.heap.size), .int .i64 0, .int .i64 (room : Nat)] 144 (0, 0))) (w.heap.size + 1) w.heap.size [] room := by
  refine ⟨?_, (MapL.made w).ext ((Ext.refl _).alloc _)⟩
  have := block_alloc_new (w.alloc (.map #[] 0)) (.cells #[.map (some w.heap.size), .int .i64 0, .int .i64 (room : Nat)] 144 (0, 0))
  rw [size_alloc] at this
  exact this
end Go.Proofs.YtldppmjjgljinaaGreatDoor
