/- Opening the arguments of the laws on files; contracts in their words. -/
import Derived.Test.YtlabhbeacogfbaaDoorLawC
import Derived.Test.YtlabhbeacogfbaaDoorWithinL
import Derived.Test.YtlabhbeacogfbaaDoorPathEnv
import Derived.Deep.SlicePairs
namespace Go.Proofs.YtlabhbeacogfbaaDoor
open Go.ChangeShapes Go.WideShapes Go.ChangeAt Go.RowKit

/-- Texts that came in, wherever they begin. -/
def TextsIn (w : World) (v : Value) (ss : List ByteArray) : Prop := ∃ a cap, v = .slice a ss.length cap ∧ ss.length ≤ cap ∧ cap ≤ maxLen ∧ ∀ (j : Nat) s, ss[j]? = some s → ∃ g off, a = some ⟨g, off, none⟩ ∧ w.cell? ⟨g, off + j, none⟩ = some (.string s) ∧ s.size ≤ maxLen

set_option maxRecDepth 100000 in
theorem open_files {H : Type} {enc : TypeId × Value → H} {W : World} {base base' : Nat} {r : Reach} {sp : Nat → Bool} {held : Bool} {v : Value} {d : DataW H} {p : List MemPlace} (hv : Value.okWide Tryd.prog W r base 22 v) (h : DataW.Trod enc Tryd.prog W base' sp held 22 v d p) :
    ∃ fs, FilesIn W v fs ∧ ∀ f ∈ fs, f.1.size ≤ maxLen ∧ f.2.size ≤ maxLen := by
  obtain ⟨o, len, cap, rfl⟩ := okWide_slice (show Tryd.prog.underlying 22 = some (.slice 42) by kernel_rfl) hv
  obtain ⟨fuel, hf⟩ := h
  rcases Go.Deep.open_slice_pairs (show Tryd.prog.underlying 22 = some (.slice 42) by kernel_rfl) Tryd.underlying42 (by kernel_rfl) rfl rfl (by kernel_rfl) (by kernel_rfl) hf with ⟨hcs, _⟩ | ⟨a, len', cap', m, n, V0, V1, D0, D1, P0, P1, hcs, _, hl, hm, hmm, _, hx⟩
  · obtain ⟨rfl, rfl, rfl⟩ : o = none ∧ len = 0 ∧ cap = 0 := by simpa [Value.cells] using hcs
    exact ⟨[], ⟨none, 0, rfl, Nat.le_refl _, by decide, fun j f hj => by simp at hj⟩, fun f hf => by cases hf⟩
  · obtain ⟨rfl, rfl, rfl⟩ : o = some a ∧ len = len' ∧ cap = cap' := by simpa [Value.cells] using hcs
    have hlm : len ≤ m := by rw [hmm]; split <;> omega
    have each : ∀ i, i < m → ∃ f : ByteArray × ByteArray, W.cell? (a.add (i * 2)) = some (.string f.1) ∧ W.cell? (a.add (i * 2 + 1)) = some (.string f.2) ∧ f.1.size ≤ maxLen ∧ f.2.size ≤ maxLen := by
      intro i hi
      obtain ⟨h0, h1, t0, t1⟩ := hx i hi
      obtain ⟨s, e0, _, z0⟩ := DataW.trod_string Tryd.underlying9 t0
      obtain ⟨u, e1, _, z1⟩ := DataW.trod_string Tryd.underlying9 t1
      refine ⟨(s, u), ?_, ?_, z0, z1⟩
      · rw [h0]; congr 1; simpa using e0
      · rw [h1]; congr 1; simpa using e1
    obtain ⟨q, hq⟩ := Go.Deep.choose_lt each
    refine ⟨(List.range len).map q, ⟨some a, cap, by simp, by simpa using hl, hm, fun j f hj => ?_⟩, fun f hf => ?_⟩
    · have hj' : j < len := by
        have := (List.getElem?_eq_some_iff.1 hj).1
        simpa using this
      obtain ⟨h0, h1, _⟩ := hq j (by omega)
      have hfe : f = q j := by
        rw [List.getElem?_map, List.getElem?_range hj'] at hj
        simpa using hj.symm
      subst hfe
      obtain ⟨g, o2, rfl⟩ := addr_of_cell (by have := (hq 0 (by omega)).1; rw [Nat.zero_mul, add_zero'] at this; exact this)
      rw [add_off] at h0 h1
      exact ⟨g, o2, rfl, h0, by rw [Nat.add_assoc]; exact h1⟩
    · obtain ⟨i, hi, rfl⟩ := List.mem_map.1 hf
      have := List.mem_range.1 hi
      exact (hq i (by omega)).2.2

set_option maxRecDepth 100000 in
theorem open_texts {H : Type} {enc : TypeId × Value → H} {W : World} {base base' : Nat} {r : Reach} {sp : Nat → Bool} {held : Bool} {v : Value} {d : DataW H} {p : List MemPlace} (hv : Value.okWide Tryd.prog W r base 28 v) (h : DataW.Trod enc Tryd.prog W base' sp held 28 v d p) :
    ∃ ss, TextsIn W v ss := by
  obtain ⟨o, len, cap, rfl⟩ := okWide_slice (show Tryd.prog.underlying 28 = some (.slice 9) by kernel_rfl) hv
  obtain ⟨fuel, hf⟩ := h
  rcases open_strings (show Tryd.prog.underlying 28 = some (.slice 9) by kernel_rfl) Tryd.underlying9 (by kernel_rfl) hf with ⟨hcs, _⟩ | ⟨a, len', cap', ss, hcs, _, hl, hm, hz, _, hcell, hws⟩
  · obtain ⟨rfl, rfl, rfl⟩ : o = none ∧ len = 0 ∧ cap = 0 := by simpa [Value.cells] using hcs
    exact ⟨[], none, 0, rfl, Nat.le_refl _, by decide, fun j f hj => by simp at hj⟩
  · obtain ⟨rfl, rfl, rfl⟩ : o = some a ∧ len = len' ∧ cap = cap' := by simpa [Value.cells] using hcs
    have hlm : len ≤ ss.length := by rw [hz]; split <;> omega
    refine ⟨ss.take len, some a, cap, by rw [List.length_take, Nat.min_eq_left hlm], by rw [List.length_take]; omega, hm, fun j s hj => ?_⟩
    have hj' : j < len := by
      have := (List.getElem?_eq_some_iff.1 hj).1
      rw [List.length_take] at this; omega
    rw [List.getElem?_take, if_pos hj'] at hj
    have h0 := hcell j (by omega)
    rw [show ss.getD j ByteArray.empty = s from by simp [List.getD, hj]] at h0
    obtain ⟨g, o2, rfl⟩ := addr_of_cell (by have := hcell 0 (by omega); rw [add_zero'] at this; exact this)
    rw [add_off] at h0
    exact ⟨g, o2, rfl, h0, hws s (List.mem_of_getElem? hj)⟩

theorem fewF_size (fs : List (ByteArray × ByteArray)) : ∀ f ∈ fewF fs, f.1.size ≤ 40 ∧ f.2.size ≤ 600 := by
  intro f hf
  obtain ⟨g, _, rfl⟩ := List.mem_map.1 hf
  exact ⟨cutTo_le 40 g.1, cutTo_le 600 g.2⟩
theorem fewF_fit (fs : List (ByteArray × ByteArray)) : ∀ f ∈ fewF fs, f.1.size ≤ maxLen ∧ f.2.size < 4294967281 := fun f hf => by
  have := fewF_size fs f hf
  unfold maxLen; omega
theorem fewF_ref (fs : List (ByteArray × ByteArray)) : ∀ f ∈ fewF fs, f.2.size ≤ 4096 := fun f hf => by
  have := fewF_size fs f hf
  omega
theorem few_at {v : Value} {fs : List (ByteArray × ByteArray)} (w : World) (hF : FilesIn w v fs) (hfs : ∀ f ∈ fs, f.1.size ≤ maxLen ∧ f.2.size ≤ maxLen) :
    Calls Tryd.prog 11 #[v] w fun e w' => ∃ u, e = .returned u ∧ Hid (TextsAt w' u (fewF fs)) ∧ Ext w w' := few_any v fs w hF hfs

theorem rows_shape {w : World} {v : Value} {ts : List Txt} (h : IsRows w v ts) : ∃ a cap, v = .slice a ts.length cap ∧ ts.length ≤ cap ∧ cap ≤ 9223372036854775807 := by
  obtain ⟨l, rfl, h⟩ := h
  obtain ⟨a, cap, rfl, h1, h2, _⟩ := h.view
  rw [List.length_map]
  exact ⟨a, cap, rfl, h1, h2⟩
theorem same_rows {v u : Value} {ts : List Txt} {w : World} (hv : IsRows w v ts) (hu : IsRows w u ts) :
    Calls Tryd.prog 15 #[v, u] w fun e w' => e = .returned (.bool true) ∧ Ext w w' := by
  obtain ⟨l, h1, h2⟩ := hv
  obtain ⟨m, h3, h4⟩ := hu
  have := same_any v u l m w h2 h4
  rwa [show sameB l m = true from by unfold sameB; rw [h1, h3]; simp] at this
theorem refMatch_at {v : Value} {ts : List Txt} {s : ByteArray} {w : World} (hs : s.size < 4294967281) (hv : IsRows w v ts) (hp : ∀ t ∈ ts, ∃ p, patL t = .ok p) :
    Calls Tryd.prog 18 #[v, .string s] w fun e w' => e = .returned (.tuple #[.bool (matchesL ts s).1, .bool (matchesL ts s).2]) ∧ Ext w w' := by
  obtain ⟨l, rfl, h⟩ := hv
  refine refMatch_any v l s w hs h fun t ht => ?_
  obtain ⟨p, hp⟩ := hp t.toList (List.mem_map_of_mem ht)
  refine ⟨?_, p, hp⟩
  have : t.toList.length ≤ 128 := by
    unfold patL at hp
    split at hp
    · cases hp
    · omega
  rw [len_toList] at this
  unfold maxLen; omega
theorem rows_nil (w : World) : IsRows w (.slice none 0 0) [] := ⟨[], rfl, .inl ⟨rfl, rfl⟩⟩
theorem matchesL_nil (s : ByteArray) : matchesL [] s = (false, false) := by
  unfold matchesL
  split <;> rfl
end Go.Proofs.YtlabhbeacogfbaaDoor
