/- Contracts of caravan/sha: Sum, Text. -/
import Derived.Test.YtgojagdjlebnnaaDoorShaG
namespace Go.Proofs.YtgojagdjlebnnaaDoor
open Go.RowKit

theorem bytesOff_any {b b' : Nat} {w w' : World} {v : Value} {l : List UInt8} (h : BytesOff b w v l) (x : Ext w w') (hb : w.heap.size ≤ b') : BytesOff b' w' v l := by
  obtain ⟨a, cap, h1, h2, h3, h4⟩ := h
  refine ⟨a, cap, h1, h2, h3, fun hp => ?_⟩
  obtain ⟨g, o, e1, e2, e3, e4⟩ := h4 hp
  exact ⟨g, o, e1, by omega, Nat.lt_of_lt_of_le e3 x.size, fun j y hj => (x.cell e3).trans (e4 j y hj)⟩
theorem World.size_alloc_heap (w : World) (o : Obj) : (w.alloc o).heap.size = w.heap.size + 1 := by simp
def hashV (l : List UInt8) : Value := .agg (hArr l 32)

set_option maxHeartbeats 1000000 in
set_option maxRecDepth 100000 in
theorem sum_any (b : List UInt8) (v : Value) (w : World) (T : ShaTabs w) (hv : BytesOff w.heap.size w v b) (hm : b.length ≤ 1048576) :
    Calls Tryd.prog 53 #[v] w fun e w' => e = .returned (hashV (shaL b)) ∧ Ext w w' := by
  have HT := Lib.hid T
  have HV := Lib.hid hv
  have hss : (hArr (shaL b) 32).size = 32 := hArr_size _ _ (shaL_len b) (by omega)
  have HSS := Lib.hid hss
  have HN := fun w T => Lib.hid (new_any w T)
  have HW := fun bs w h1 h2 h3 h4 => Lib.hid (write_any [] b bs v w h1 h2 h3 h4 (by simp; omega))
  have HS := fun bs w T h => Lib.hid (ssum_any b bs w T h hm)
  unfold hashV
  generalize shaL b = out at *
  clear T hv hss
  go_enter Tryd.func53, Tryd.ntmps53
  go_wp2_with fail
  refine (HN _ (HT.out.ext ((Ext.refl w).alloc _))).out.mono ?_
  rintro e w2 ⟨rfl, hst2, hx2⟩
  have X2 := Lib.hid (((Ext.refl w).alloc _).trans hx2)
  have HB0 := Lib.hid (show w2.heap[w.heap.size]? = some (.cells (hArr [] 0) 55 (0, 0)) from (hx2.block (by simp)).trans (heap_alloc_new w _))
  have hlt := Lib.hid (HT.out.lt.1)
  simp only [World.size_alloc_heap] at hst2 ⊢
  have HST := Lib.hid hst2
  clear hst2 hx2
  go_wp2_with fail
  refine (HW (w.heap.size + 1) _ HST.out (bytesOff_any HV.out X2.out (by omega)) (HT.out.ext X2.out).roots (by have := hlt.out; omega)).out.mono ?_
  rintro e w3 ⟨rfl, hst3, ht3⟩
  have X3 := Lib.hid (ht3.fresh X2.out (by omega))
  have HB3 := Lib.hid ((ht3.block _ (ltB HB0.out) (fun e => by have := Option.some.inj e; omega)).trans HB0.out)
  have HST3 := Lib.hid (show StAt w3 (w.heap.size + 1) b from hst3)
  clear hst3 ht3
  go_wp2_with fail
  refine (HS _ _ (HT.out.ext X3.out) HST3.out).out.mono ?_
  rintro e w4 ⟨rfl, hx4⟩
  have HB4 := Lib.hid ((hx4.block (ltB HB3.out)).trans HB3.out)
  have X4 := Lib.hid (X3.out.trans hx4)
  clear hx4
  go_wp2_with (refine wpList_storeT rfl _ _ _ rfl w.heap.size (hArr out 32) rfl rfl 55 _ HB4.out (by rw [HSS.out]; kernel_rfl) (by rw [HSS.out]; rfl) (hArr_one _ _) ?_; intro w6 hb6 ht6; have HB6 := Lib.hid hb6; have HT6 := Lib.hid ht6; clear hb6 ht6; go_frame)
  refine bodyPost_ret (results_cell_row rfl _ _ w.heap.size 55 _ (0, 0) _ rfl HB6.out Tryd.underlying55 rfl (by rw [HSS.out]; kernel_rfl)) rfl ⟨rfl, HT6.out.fresh X4.out (Nat.le_refl _)⟩

theorem index_hash (l : List UInt8) (hl : l.length = 32) (i : Nat) (x : UInt8) (h : l[i]? = some x) (w : World) : (Instr.index 55 (.agg (hArr l 32)) (.int .i64 i)).run Tryd.prog w = .ok (.int .u8 x.toNat) w := by
  have hi : i < 32 := hl ▸ (List.getElem?_eq_some_iff.1 h).1
  have hu : Tryd.prog.underlying 55 = some (.array 32 5) := by kernel_rfl
  obtain ⟨j, hj, hjs⟩ := Option.map_eq_some_iff.1 (show (Tryd.prog.info? 5).map (·.size) = some 1 from by kernel_rfl)
  have hc : (hArr l 32)[i]? = some (.int .u8 x.toNat) := by
    unfold hArr
    rw [List.getElem?_toArray, List.getElem?_append_left (by simp [hl, hi]), List.getElem?_map, List.getElem?_take, if_pos hi, h]; rfl
  simp [Instr.index, run_underlying hu, asIntOf, sizeOf, typeInfo, hj, hjs, part, hc]
  intro hh; omega
end Go.Proofs.YtgojagdjlebnnaaDoor
