/- Disks that are none: what they answer. -/
import Derived.Test.YtldppmjjgljinaaGreatDoorDiskG
import Derived.Test.YtldppmjjgljinaaGreatDoorDiskF
import Derived.Test.YtldppmjjgljinaaGreatDoorDiskM
namespace Go.Proofs.YtldppmjjgljinaaGreatDoor
open Go.RowKit

/-- None, or one that New did not make. -/
def NotDk (w : World) (v : Value) : Prop := v = .pointer none ∨ ∃ z, v = .pointer (some ⟨z, 0, none⟩) ∧ w.cell? ⟨z, 0, none⟩ = some (.pointer none)
theorem NotDk.ext {w w' : World} {v : Value} (h : NotDk w v) (x : Ext w w') : NotDk w' v := by
  rcases h with h | ⟨z, h1, h2⟩
  · exact .inl h
  · exact .inr ⟨z, h1, (x.cell (lt_of_cell h2)).trans h2⟩
theorem is_not {w : World} {v : Value} (h : NotDk w v) : Calls Tryz.prog 89 #[v] w fun e w' => e = .returned (.bool false) ∧ w' = w := by
  rcases h with rfl | ⟨z, rfl, hc⟩
  · exact dis_nil w
  · exact dis_zero z w hc
set_option maxRecDepth 100000 in
theorem do_not {w : World} {v : Value} (h : NotDk w v) (fv sl : Value) (r : Bool) : Calls Tryz.prog 122 #[v, fv, .bool r, sl] w fun e w' => e = .returned (.int .i64 1) ∧ w' = w := by
  have H := Lib.hid (is_not h)
  clear h
  go_enter Tryz.func122, Tryz.ntmps122
  go_wp2_with fail
  refine H.out.mono ?_
  rintro e w1 ⟨rfl, hw⟩
  obtain rfl := hw.symm
  clear hw
  go_wp2_with fail
  go_ret
  exact ⟨rfl, rfl⟩
set_option maxRecDepth 100000 in
theorem mkdir_not {w : World} {v : Value} (h : NotDk w v) (p : ByteArray) : Calls Tryz.prog 57 #[v, .string p] w fun e w' => e = .returned (.int .i64 1) ∧ Ext w w' := by
  have HD := fun w' (x : Ext w w') fv sl r => Lib.hid (do_not (h.ext x) fv sl r)
  have hx : Ext w ((w.alloc (.cells #[.string p] 9)).alloc (.cells #[.string p] 9)) := ((Ext.refl w).alloc _).alloc _
  clear h
  go_enter Tryz.func57, Tryz.ntmps57
  go_wp2_with fail
  refine (HD _ hx _ _ _).out.mono ?_
  rintro e w1 ⟨rfl, hw⟩
  subst hw
  go_wp2_with fail
  go_ret
  exact ⟨rfl, hx⟩
set_option maxRecDepth 100000 in
set_option maxHeartbeats 2000000 in
theorem write_not {w : World} {v : Value} (h : NotDk w v) (p a : ByteArray) (tm : Int) : Calls Tryz.prog 58 #[v, .string p, .string a, .int .i64 tm] w fun e w' => e = .returned (.int .i64 1) ∧ Ext w w' := by
  have HD := fun w' (x : Ext w w') fv sl r => Lib.hid (do_not (h.ext x) fv sl r)
  have HCk := fun w => Lib.hid (dclock_any tm w)
  generalize clockB tm = cb at *
  have ct : (((w.alloc (.cells #[.string p] 9)).alloc (.cells #[.string a] 9)).alloc (.cells #[.int .i64 tm] 2)).cell? ⟨w.heap.size + 2, 0, none⟩ = some (.int .i64 tm) := by
    have := cell1 (w := (w.alloc (.cells #[.string p] 9)).alloc (.cells #[.string a] 9)) (v := .int .i64 tm) (t := 2)
    rw [size_alloc, size_alloc] at this
    exact this
  have cp : (((w.alloc (.cells #[.string p] 9)).alloc (.cells #[.string a] 9)).alloc (.cells #[.int .i64 tm] 2)).cell? ⟨w.heap.size, 0, none⟩ = some (.string p) := cell_up (cell_up cell1)
  clear h
  go_enter Tryz.func58, Tryz.ntmps58
  go_wp2_with fail
  go_region_held (fun w' => w'.cell? ⟨w.heap.size, 0, none⟩ = some (.string p) ∧ w'.cell? ⟨w.heap.size + 2, 0, none⟩ = some (.int .i64 tm)) (go_keep) (first
    | (go_at_call 127; refine (HCk _).out.mono ?_; rintro e w' ⟨rfl, rfl⟩)
    | (go_at_call 122; refine (HD _ (by repeat (first | exact Ext.refl _ | refine Ext.alloc ?_ _ | refine Ext.drew ?_)) _ _ _).out.mono ?_; rintro e w' ⟨rfl, rfl⟩))
  all_goals (go_wp2_with fail; go_ret; exact ⟨rfl, by repeat (first | exact Ext.refl _ | refine Ext.alloc ?_ _ | refine Ext.drew ?_)⟩)
set_option maxRecDepth 100000 in
theorem sync_not {w : World} {v : Value} (h : NotDk w v) : Calls Tryz.prog 36 #[v] w fun e w' => e = .returned (.int .i64 1) ∧ w' = w := by
  have H := Lib.hid (is_not h)
  clear h
  go_enter Tryz.func36, Tryz.ntmps36
  go_wp2_with fail
  refine H.out.mono ?_
  rintro e w1 ⟨rfl, hw⟩
  obtain rfl := hw.symm
  clear hw
  go_wp2_with fail
  go_ret
  exact ⟨rfl, rfl⟩
set_option maxRecDepth 100000 in
theorem crash_not {w : World} {v : Value} (h : NotDk w v) (u : Value) : Calls Tryz.prog 35 #[v, u] w fun e w' => e = .returned (.int .i64 1) ∧ w' = w := by
  have H := Lib.hid (is_not h)
  clear h
  go_enter Tryz.func35, Tryz.ntmps35
  go_wp2_with fail
  refine H.out.mono ?_
  rintro e w1 ⟨rfl, hw⟩
  obtain rfl := hw.symm
  clear hw
  go_wp2_with fail
  go_ret
  exact ⟨rfl, rfl⟩
set_option maxRecDepth 100000 in
theorem fuse_not {w : World} {v : Value} (h : NotDk w v) (n : Int) : Calls Tryz.prog 66 #[v, .int .i64 n] w fun e w' => e = .returned (.int .i64 1) ∧ w' = w := by
  have H := Lib.hid (is_not h)
  clear h
  go_enter Tryz.func66, Tryz.ntmps66
  go_wp2_with fail
  refine H.out.mono ?_
  rintro e w1 ⟨rfl, hw⟩
  obtain rfl := hw.symm
  clear hw
  go_wp2_with fail
  go_ret
  exact ⟨rfl, rfl⟩
set_option maxRecDepth 100000 in
theorem used_not {w : World} {v : Value} (h : NotDk w v) : Calls Tryz.prog 32 #[v] w fun e w' => e = .returned (.int .i64 0) ∧ w' = w := by
  have H := Lib.hid (is_not h)
  clear h
  go_enter Tryz.func32, Tryz.ntmps32
  go_wp2_with fail
  refine H.out.mono ?_
  rintro e w1 ⟨rfl, hw⟩
  obtain rfl := hw.symm
  clear hw
  go_wp2_with fail
  go_ret
  exact ⟨rfl, rfl⟩
set_option maxRecDepth 100000 in
theorem room_not {w : World} {v : Value} (h : NotDk w v) : Calls Tryz.prog 33 #[v] w fun e w' => e = .returned (.int .i64 0) ∧ w' = w := by
  have H := Lib.hid (is_not h)
  clear h
  go_enter Tryz.func33, Tryz.ntmps33
  go_wp2_with fail
  refine H.out.mono ?_
  rintro e w1 ⟨rfl, hw⟩
  obtain rfl := hw.symm
  clear hw
  go_wp2_with fail
  go_ret
  exact ⟨rfl, rfl⟩
set_option maxRecDepth 100000 in
theorem pending_not {w : World} {v : Value} (h : NotDk w v) : Calls Tryz.prog 37 #[v] w fun e w' => e = .returned (.int .i64 0) ∧ w' = w := by
  have H := Lib.hid (is_not h)
  clear h
  go_enter Tryz.func37, Tryz.ntmps37
  go_wp2_with fail
  refine H.out.mono ?_
  rintro e w1 ⟨rfl, hw⟩
  obtain rfl := hw.symm
  clear hw
  go_wp2_with fail
  go_ret
  exact ⟨rfl, rfl⟩
set_option maxRecDepth 100000 in
theorem paths_not {w : World} {v : Value} (h : NotDk w v) : Calls Tryz.prog 28 #[v] w fun e w' => e = .returned (.slice none 0 0) ∧ w' = w := by
  have H := Lib.hid (is_not h)
  clear h
  go_enter Tryz.func28, Tryz.ntmps28
  go_wp2_with fail
  refine H.out.mono ?_
  rintro e w1 ⟨rfl, hw⟩
  obtain rfl := hw.symm
  clear hw
  go_wp2_with fail
  go_ret
  exact ⟨rfl, rfl⟩
set_option maxRecDepth 100000 in
theorem copy_not {w : World} {v : Value} (h : NotDk w v) : Calls Tryz.prog 38 #[v] w fun e w' => e = .returned (.pointer none) ∧ w' = w := by
  have H := Lib.hid (is_not h)
  clear h
  go_enter Tryz.func38, Tryz.ntmps38
  go_wp2_with fail
  refine H.out.mono ?_
  rintro e w1 ⟨rfl, hw⟩
  obtain rfl := hw.symm
  clear hw
  go_wp2_with fail
  go_ret
  exact ⟨rfl, rfl⟩
set_option maxRecDepth 100000 in
theorem list_not {w : World} {v : Value} (h : NotDk w v) (p : ByteArray) : Calls Tryz.prog 61 #[v, .string p] w fun e w' => e = .returned (.tuple #[.slice none 0 0, .int .i64 1]) ∧ Ext w w' := by
  have H := Lib.hid (is_not h)
  clear h
  go_enter Tryz.func61, Tryz.ntmps61
  go_wp2_with fail
  refine H.out.mono ?_
  rintro e w1 ⟨rfl, hw⟩
  obtain rfl := hw.symm
  clear hw
  go_wp2_with fail
  go_ret2
  exact ⟨rfl, Ext.refl _⟩
set_option maxRecDepth 100000 in
theorem read_not {w : World} {v : Value} (h : NotDk w v) (p : ByteArray) : Calls Tryz.prog 29 #[v, .string p] w fun e w' => e = .returned (.tuple #[nv nd0, .int .i64 1]) ∧ Ext w w' := by
  have x1 : Ext w (w.alloc (.cells #[.int .i64 0, .string ⟨#[]⟩, .string ⟨#[]⟩, .int .i64 0] 57 (0, 0))) := (Ext.refl w).alloc _
  have H := Lib.hid (is_not (h.ext x1))
  have HB := Lib.hid (block_alloc_new w (.cells #[.int .i64 0, .string ⟨#[]⟩, .string ⟨#[]⟩, .int .i64 0] 57 (0, 0)))
  have HX := Lib.hid x1
  clear h x1
  go_enter Tryz.func29, Tryz.ntmps29
  go_wp2_with fail
  refine H.out.mono ?_
  rintro e w1 ⟨rfl, hw⟩
  obtain rfl := hw.symm
  clear hw
  go_wp2_with fail
  exact bodyPost_ret (ret_node rfl _ w.heap.size 0 0 ⟨#[]⟩ ⟨#[]⟩ rfl HB.out) rfl ⟨rfl, HX.out⟩
end Go.Proofs.YtldppmjjgljinaaGreatDoor
