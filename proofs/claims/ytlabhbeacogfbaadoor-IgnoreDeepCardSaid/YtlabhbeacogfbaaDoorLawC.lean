/- Contract of caravanlaw08's few. -/
import Derived.Test.YtlabhbeacogfbaaDoorLawB
import Derived.Deep.RegionHeldLaw
namespace Go.Proofs.YtlabhbeacogfbaaDoor
open Go.RowKit

set_option maxRecDepth 100000 in
set_option maxHeartbeats 8000000 in
theorem few_any (v : Value) (fs : List (ByteArray × ByteArray)) (w : World) (hF : FilesIn w v fs) (hfs : ∀ f ∈ fs, f.1.size ≤ maxLen ∧ f.2.size ≤ maxLen) :
    Calls Tryd.prog 11 #[v] w fun e w' => ∃ u, e = .returned u ∧ TextsAt w' u (fewF fs) ∧ Ext w w' := by
  obtain ⟨a, cap, rfl, h1, h2, h3⟩ := hF
  unfold maxLen at h2 hfs
  have H3 := Lib.hid h3
  have HFS := Lib.hid hfs
  clear h3 hfs
  go_enter Tryd.func11, Tryd.ntmps11
  go_wp2_with fail
  go_loopw [3, 4] (fun ov iv wr => Hid (∃ k : Nat, k ≤ fs.length ∧ k ≤ 6 ∧ iv = .int .i64 k ∧ wr.ownsRow w.heap.size 42 2 ov k (flatF ((fs.take k).map cutF)) ∧ Ext w wr)) (fun _ iv _ => 6 - (intOf iv).toNat)
  case atStart => exact ⟨0, Nat.zero_le _, Nat.zero_le _, rfl, World.ownsRow_nil _ _ _ _, Ext.refl w⟩
  case round =>
    obtain ⟨k, hk, hk6, rfl, ho, hx⟩ := hrel.out
    clear hrel
    have HX := Lib.hid hx
    have HO := Lib.hid ho
    by_cases hlt : k < fs.length
    · by_cases hlt6 : k < 6
      · obtain ⟨f, hf⟩ : ∃ f, fs[k]? = some f := ⟨_, List.getElem?_eq_getElem hlt⟩
        obtain ⟨g, off, rfl, c1, c2⟩ := H3.out k f hf
        have c1' := (hx.cell (lt_of_cell c1)).trans c1
        have c2' := (hx.cell (lt_of_cell c2)).trans c2
        obtain ⟨z1, z2⟩ := HFS.out f (List.mem_of_getElem? hf)
        have HTK := Lib.hid (show flatF ((fs.take (k + 1)).map cutF) = flatF ((fs.take k).map cutF) ++ [.string (cutTo 40 f.1), .string (cutTo 600 f.2)] from by
          rw [List.take_add_one, hf, List.map_append]
          simp [flatF, cutF])
        have hW : (wr.alloc (.cells #[.string f.1, .string f.2] 42)).heap[wr.heap.size]? = some (.cells #[.string f.1, .string f.2] 42 (0, 0)) := heap_alloc_new _ _
        have C1 := After.cell (show (wr.alloc (.cells #[.string f.1, .string f.2] 42)).cell? ⟨wr.heap.size, 0, none⟩ = some (.string f.1) from cell_of_block hW)
        have C2 := After.cell (show (wr.alloc (.cells #[.string f.1, .string f.2] 42)).cell? ⟨wr.heap.size, 1, none⟩ = some (.string f.2) from cell_of_block hW)
        have m1 : (0 : Int) ≤ min (f.1.size : Int) 40 := by omega
        have m2 : min (f.1.size : Int) 40 ≤ f.1.size := by omega
        have m3 : (0 : Int) ≤ min (f.2.size : Int) 600 := by omega
        have m4 : min (f.2.size : Int) 600 ≤ f.2.size := by omega
        have e1 : f.1.extract 0 (min (f.1.size : Int) 40).toNat = cutTo 40 f.1 := cutTo_int 40 f.1
        have e2 : f.2.extract 0 (min (f.2.size : Int) 600).toNat = cutTo 600 f.2 := cutTo_int 600 f.2
        clear c1 c2 hf ho hx hW
        go_wp2_with fail
        have HS := HX.out.size
        have HB := Lib.hid (show ((wr.alloc (.cells #[.string f.1, .string f.2] 42)).drew.alloc (.cells #[.string (cutTo 40 f.1), .string (cutTo 600 f.2)] 42)).heap[wr.heap.size]? = some (.cells #[.string f.1, .string f.2] 42 (0, 0)) from (((Ext.refl _).drew.alloc _).block (by simp)).trans (heap_alloc_new wr _))
        go_region_held_law (fun w' => w'.cell? ⟨wr.heap.size, 0, none⟩ = some (.string f.1) ∧ w'.cell? ⟨wr.heap.size, 1, none⟩ = some (.string f.2)) (go_keep)
         ((refine step_append_k elT w.heap.size u3 k (flatF ((fs.take k).map cutF)) (owns_ext HO.out ?_) (wr.heap.size + 1) [.string (cutTo 40 f.1), .string (cutTo 600 f.2)] rfl (.tmp 20) (.tmp 36) rfl rfl ?_ ?_ (news_at (t := 42) ?_) (onesT _ _) ?_ ?_ ?_
           · repeat (first | exact Ext.refl _ | refine Ext.alloc ?_ _ | refine Ext.drew ?_)
           · simp [Act.eval]
           · simp [Act.eval]
           · exact heap_new_drew (by simp)
           · omega
           · simp; omega
           intro v' w3 hown3 hgr3 hrow3 hwh3
           obtain ⟨g3, cap3, rfl, _⟩ := hrow3
           have hb3 := (hgr3.block wr.heap.size (by simp; omega) (fun e => by have := (HO.out.lt _ e.symm).2; omega)).trans HB.out
           have k1 : w3.cell? ⟨wr.heap.size, 0, none⟩ = some (.string f.1) := cell_of_block hb3
           have k2 : w3.cell? ⟨wr.heap.size, 1, none⟩ = some (.string f.2) := cell_of_block hb3
           have HR := Lib.hid (show w3.ownsRow w.heap.size 42 2 _ (k + 1) (flatF ((fs.take (k + 1)).map cutF)) ∧ Ext w w3 from ⟨by rw [HTK.out]; exact hown3, (((HX.out.alloc _).drew).alloc _).grown hgr3 (by simp; omega) (own_block_ge_k HO.out)⟩)
           clear hwh3 hown3 hgr3 hb3))
        all_goals
          go_wp2_with fail
          go_roundw
          case rel => exact ⟨k + 1, by omega, by omega, by go_num, HR.out.1, HR.out.2⟩
          case measure => simp [intOf] <;> omega
      · obtain rfl : k = 6 := by omega
        have HR := Lib.hid (show TextsAt wr u3 (fewF fs) from TextsAt.of_owns (by unfold fewF; rw [List.length_map, List.length_take, Nat.min_eq_left (by omega)]; exact HO.out))
        clear ho hx
        go_wp2_with fail
        go_ret
        exact ⟨_, rfl, HR.out, HX.out⟩
    · obtain rfl : k = fs.length := by omega
      have HR := Lib.hid (show TextsAt wr u3 (fewF fs) from TextsAt.of_owns (by
        unfold fewF; rw [List.length_map, List.take_of_length_le hk6]
        have := HO.out
        rwa [List.take_length] at this))
      have nlt : decide ((fs.length : Int) < (fs.length : Int)) = false := by simp
      clear ho hx
      go_wp2_with fail
      go_ret
      exact ⟨_, rfl, HR.out, HX.out⟩
end Go.Proofs.YtlabhbeacogfbaaDoor
