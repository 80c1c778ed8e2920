/- Contracts of caravan/sha: New; a slice of bytes that a call makes: zeros behind its first byte. -/
import Derived.Test.YtgojagdjlebnnaaDoorShaD
import Derived.Test.YtgojagdjlebnnaaDoorOwn
import Derived.Lib.AppendZerosOnto
namespace Go.Proofs.YtgojagdjlebnnaaDoor
open Go.RowKit

/-- The package's tables, in memory. -/
structure ShaTabs (w : World) : Prop where
  roots : ∀ k, k < 64 → w.cell? ⟨2, k, none⟩ = some (.int .u32 (kAt k).toNat)
  first : ∀ (k : Nat) x, first8.list[k]? = some x → w.cell? ⟨1, k, none⟩ = some (wv x)
theorem ShaTabs.ext {w w' : World} (h : ShaTabs w) (k : Ext w w') : ShaTabs w' :=
  ⟨fun j hj => (k.cell (lt_of_cell (h.roots j hj))).trans (h.roots j hj), fun j x hj => (k.cell (lt_of_cell (h.first j x hj))).trans (h.first j x hj)⟩
theorem ShaTabs.lt {w : World} (h : ShaTabs w) : 2 < w.heap.size ∧ 1 < w.heap.size := ⟨lt_of_cell (h.roots 0 (by decide)), lt_of_cell (h.first 0 _ rfl)⟩

theorem new_any (w : World) (T : ShaTabs w) : Calls Tryd.prog 71 #[] w fun e w' => e = .returned (.pointer (some ⟨w.heap.size, 0, none⟩)) ∧ StAt w' w.heap.size [] ∧ Ext w w' := by
  have HT := Lib.hid T
  have s0 : w.cell? ⟨1, 0, none⟩ = some (.int .u32 first8.a.toNat) := T.first 0 _ rfl
  have s1 : w.cell? ⟨1, 1, none⟩ = some (.int .u32 first8.b.toNat) := T.first 1 _ rfl
  have s2 : w.cell? ⟨1, 2, none⟩ = some (.int .u32 first8.c.toNat) := T.first 2 _ rfl
  have s3 : w.cell? ⟨1, 3, none⟩ = some (.int .u32 first8.d.toNat) := T.first 3 _ rfl
  have s4 : w.cell? ⟨1, 4, none⟩ = some (.int .u32 first8.e.toNat) := T.first 4 _ rfl
  have s5 : w.cell? ⟨1, 5, none⟩ = some (.int .u32 first8.f.toNat) := T.first 5 _ rfl
  have s6 : w.cell? ⟨1, 6, none⟩ = some (.int .u32 first8.g.toNat) := T.first 6 _ rfl
  have s7 : w.cell? ⟨1, 7, none⟩ = some (.int .u32 first8.h.toNat) := T.first 7 _ rfl
  have HFIN := Lib.hid (show StAt (w.alloc (stObj first8.list (List.replicate 64 0) 0)) w.heap.size [] from ⟨List.replicate 64 0, rfl, rfl, heap_alloc_new _ _⟩)
  have HC := Lib.hid (show stC first8.list (List.replicate 64 0) 0 = stC [first8.a, first8.b, first8.c, first8.d, first8.e, first8.f, first8.g, first8.h] (List.replicate 64 0) 0 from rfl)
  rw [show stObj first8.list (List.replicate 64 0) 0 = .cells (stC [first8.a, first8.b, first8.c, first8.d, first8.e, first8.f, first8.g, first8.h] (List.replicate 64 0) 0) 94 (0, 0) from rfl] at HFIN
  clear T HC
  generalize first8.a = a at *
  generalize first8.b = b at *
  generalize first8.c = c at *
  generalize first8.d = d at *
  generalize first8.e = e at *
  generalize first8.f = f at *
  generalize first8.g = g at *
  generalize first8.h = h at *
  obtain ⟨C, hC⟩ : ∃ C, C = stC [a, b, c, d, e, f, g, h] (List.replicate 64 0) 0 := ⟨_, rfl⟩
  have HCC := Lib.hid hC
  rw [← hC] at HFIN
  clear hC
  go_enter Tryd.func71, Tryd.ntmps71
  go_wp2_with (refine wpList_buildAs C rfl _ _ rfl (by rw [HCC.out]; kernel_rfl) ?_; go_frame)
  go_ret
  exact ⟨rfl, HFIN.out, (Ext.refl w).alloc _⟩

theorem zeroCells_one (u : Value) (n : Nat) : (Builtin.zeroCells #[u] n).toList = List.replicate n u := by
  apply List.ext_getElem
  · simp [Builtin.zeroCells]
  · intro i h1 h2
    simp [Builtin.zeroCells, Nat.mod_one]

theorem append_zeros_one (w : World) (g z base : Nat) (x : Value) (ty : TypeId) (hb : w.heap[g]? = some (.cells #[x] 5 (0, 0))) (hz : z ≤ 1000) (hbase : base ≤ g) :
    ∃ v' w', (Builtin.append_ #[43, 3] ty #[.slice (some ⟨g, 0, none⟩) 1 1, .int .i64 z]).run Tryd.prog w = .ok v' w' ∧ w'.ownsRow base 5 1 v' (1 + z) (x :: List.replicate z (.int .u8 0)) ∧ w.grownBy w' none := by
  have ht : Tryd.prog.underlying 43 = some (.slice 5) := by kernel_rfl
  have htn : Tryd.prog.underlying 3 = some (.int .i64) := by kernel_rfl
  obtain ⟨i, hi, hz0, hz1, hz2⟩ := info_parts (show (Tryd.prog.info? 5).map (fun i => (i.zero, i.size, i.bytes)) = some (some (.int .u8 0), 1, 1) from by kernel_rfl)
  by_cases h0 : z = 0
  · subst h0
    refine ⟨_, w, ?_, ⟨rfl, .inr ⟨g, 1, #[x], rfl, hbase, hb, by omega, by decide, rfl, rfl⟩⟩, ⟨rfl, rfl, rfl, Nat.le_refl _, fun _ _ _ => rfl⟩⟩
    simp [Builtin.append_, run_underlying ht, run_underlying htn, sizeOf, typeInfo, hi, hz1, hz2, asInt, asIntOf, IntKind.wrap_i64]
    rfl
  · have hold : (Builtin.firstCells i.size 1 (.slice (some ⟨g, 0, none⟩) 1 1)).run Tryd.prog w.drew = .ok [x].toArray w.drew := by
      have := run_loadCells_list (P := Tryd.prog) w.drew ⟨g, 0, none⟩ [x] (fun j v hv => by
        match j, hv with
        | 0, hv => simp at hv; subst hv; exact cellB (w := w.drew) (k := 0) hb)
      rw [hz1]; exact this
    refine ⟨_, _, Lib.run_append_grow_zeros w 43 3 ty 5 i (.int .u8 0) .i64 .i64 ht htn hi hz0 (some ⟨g, 0, none⟩) 1 1 [x] hold z (by omega) (by omega) (by omega) (by omega) (by rw [hz2]; omega) ?_, ⟨by simp; omega, .inr ⟨w.heap.size, _, _, rfl, Nat.le_of_lt (Nat.lt_of_le_of_lt hbase (ltB hb)), heap_alloc_new w.drew _, grownCap_ge _ _ _ _, grownCap_le_maxLen _ _ _ _ (by unfold maxLen; omega), ?_, ?_⟩⟩, ⟨rfl, rfl, rfl, by simp, fun k hk h => (World.grownBy_alloc w.drew _ none).block k hk h⟩⟩
    · rw [hz2]
      have : Builtin.nextslicecap (1 + z) 1 ≤ 1001 := by unfold Builtin.nextslicecap; split <;> (try split) <;> omega
      omega
    · have := grownCap_ge w (1 + z) 1 5
      simp [← Array.length_toList, zeroCells_one, Value.cells]; omega
    · rw [Array.toList_append, Array.toList_append, show (Value.int .u8 0).cells = #[.int .u8 0] from rfl, zeroCells_one, zeroCells_one, List.take_append_of_le_length (by simp; omega), List.take_of_length_le (by simp; omega)]
      rfl
theorem bytesOff_owns {b base n : Nat} {w : World} {v : Value} {l : List UInt8} (h : w.ownsRow base 5 1 v n (l.map bv)) (hb : b < base) : BytesOff b w v l := by
  have hn : l.length = n := by have := h.1; simpa using this
  subst hn
  rcases h.2 with ⟨h1, h2⟩ | ⟨g, cap, cur, hv, hbg, hh, hc, hm, hs, ht⟩
  · exact ⟨none, 0, by rw [h1, h2], by omega, by decide, fun hp => by omega⟩
  · refine ⟨_, cap, hv, hc, hm, fun _ => ⟨g, 0, rfl, by omega, ltB hh, fun j x hj => ?_⟩⟩
    have hj' : j < l.length := (List.getElem?_eq_some_iff.1 hj).1
    rw [Nat.zero_add, cellB hh, ← Array.getElem?_toList]
    have : (cur.toList.take (l.length * 1))[j]? = some (bv x) := by rw [ht, List.getElem?_map, hj]; rfl
    rw [List.getElem?_take] at this
    split at this
    · exact this
    · cases this
end Go.Proofs.YtgojagdjlebnnaaDoor
