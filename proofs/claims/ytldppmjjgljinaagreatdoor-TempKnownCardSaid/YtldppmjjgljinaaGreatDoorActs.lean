/- Acts and bytes that come in, in memory; opening the arguments of the laws on disks. -/
import Derived.Test.YtldppmjjgljinaaGreatDoorActD
import Derived.Test.YtldppmjjgljinaaGreatDoorLift
import Derived.Deep.Slices
namespace Go.Proofs.YtldppmjjgljinaaGreatDoor
open Go.ChangeShapes Go.WideShapes Go.ChangeAt Go.RowKit

theorem reach_eq : reachBytes = reach := by unfold reachBytes reach; rfl
section
variable {H : Type} {enc : TypeId × Value → H} {W : World} {base' : Nat} {sp : Nat → Bool} {held : Bool}

theorem weights_mem {t e : TypeId} {D : Nat → DataW H} {len m : Nat} (ht : Tryz.prog.underlying t = some (.slice e)) (h : (DataW.weights Tryz.prog t (.slice ((List.range len).map D) ((List.range m).map fun j => D (len + j)))).all (· ≤ reachBytes) = true) :
    (len * Tryz.prog.bytesOf e ≤ reachBytes) ∧ ∀ i, i < len → ((D i).weights Tryz.prog e).all (· ≤ reachBytes) = true := by
  unfold DataW.weights at h
  rw [ht] at h
  simp only [List.all_cons, List.all_append, Bool.and_eq_true, decide_eq_true_eq, List.length_map, List.length_range] at h
  refine ⟨Nat.le_trans (Nat.mul_le_mul_right _ (Nat.le_add_right _ _)) h.1, fun i hi => ?_⟩
  have key : ∀ (l : List (DataW H)), (DataW.weightsAll Tryz.prog e l).all (· ≤ reachBytes) = true → ∀ d ∈ l, (d.weights Tryz.prog e).all (· ≤ reachBytes) = true := by
    intro l
    induction l with
    | nil => intro _ d hd; cases hd
    | cons x r ih =>
      intro hl d hd
      unfold DataW.weightsAll at hl
      rw [List.all_append, Bool.and_eq_true] at hl
      rcases List.mem_cons.1 hd with rfl | hd
      · exact hl.1
      · exact ih hl.2 d hd
  exact key _ h.2.1 _ (List.mem_map.2 ⟨i, List.mem_range.2 hi, rfl⟩)

theorem trod_rng {t : TypeId} {k : IntKind} {fuel : Nat} {cs : List Value} {x : DataW H × List MemPlace} (ht : Tryz.prog.underlying t = some (.int k)) (h : DataW.trod enc Tryz.prog W base' sp held fuel t cs = some x) : ∃ n, cs = [.int k n] ∧ k.min ≤ n ∧ n ≤ k.max := by
  obtain ⟨n, h1, _, h2⟩ := DataW.trod_int ht h
  unfold Lit.wf at h2
  rw [Bool.and_eq_true, decide_eq_true_eq, decide_eq_true_eq] at h2
  exact ⟨n, h1, h2⟩
theorem trod_str {t : TypeId} {fuel : Nat} {cs : List Value} {x : DataW H × List MemPlace} (ht : Tryz.prog.underlying t = some .string) (h : DataW.trod enc Tryz.prog W base' sp held fuel t cs = some x) (hw : (x.1.weights Tryz.prog t).all (· ≤ reachBytes) = true) : ∃ s : ByteArray, cs = [.string s] ∧ s.size ≤ reach := by
  obtain ⟨s, h1, rfl, _⟩ := DataW.trod_string ht h
  refine ⟨s, h1, ?_⟩
  unfold DataW.weights at hw
  simp only [List.all_cons, List.all_nil, Bool.and_true, decide_eq_true_eq] at hw
  rw [← reach_eq, Lib.size_eq]
  exact hw

set_option maxRecDepth 100000 in
theorem open_bytes_trod {fuel : Nat} {v : Value} {d : DataW H} {p : List MemPlace} (h : DataW.trod enc Tryz.prog W base' sp held fuel 22 [v] = some (d, p)) (hw : (d.weights Tryz.prog 22).all (· ≤ reachBytes) = true) :
    ∃ ks, BytesIn W v ks := by
  rcases Go.Deep.open_slice1 (show Tryz.prog.underlying 22 = some (.slice 5) by kernel_rfl) (by kernel_rfl) h with ⟨hcs, _⟩ | ⟨a, len, cap, m, n, V, D, Pl, hcs, _, hl, hm, hmm, hx, hc⟩
  · obtain rfl : v = .slice none 0 0 := by simpa using hcs
    exact ⟨[], none, 0, rfl, Nat.le_refl _, by decide, by decide, fun k u hk => by simp at hk⟩
  · obtain rfl : v = .slice (some a) len cap := by simpa using hcs
    have hlm : len ≤ m := by rw [hmm]; split <;> omega
    have hd : d = .slice ((List.range len).map D) ((List.range (m - len)).map fun j => D (len + j)) := congrArg Prod.fst hx
    subst hd
    have hlen := (weights_mem (show Tryz.prog.underlying 22 = some (.slice 5) by kernel_rfl) hw).1
    rw [show Tryz.prog.bytesOf 5 = 1 by kernel_rfl, Nat.mul_one, reach_eq] at hlen
    have each : ∀ i, i < m → ∃ u : UInt8, W.cell? (a.add i) = some (.int .u8 u.toNat) := by
      intro i hi
      obtain ⟨h0, h1⟩ := hc i hi
      obtain ⟨z, e0, z0, z1⟩ := trod_rng (show Tryz.prog.underlying 5 = some (.int .u8) by kernel_rfl) h1
      have e0 : V i = .int .u8 z := by simpa using e0
      have hz0 : (0 : Int) ≤ z := z0
      have hz1 : z ≤ 255 := z1
      refine ⟨UInt8.ofNat z.toNat, ?_⟩
      rw [h0, e0]
      congr 2
      rw [UInt8.toNat_ofNat', Nat.mod_eq_of_lt (by omega)]
      omega
    obtain ⟨q, hq⟩ := Go.Deep.choose_lt each
    refine ⟨(List.range len).map q, some a, cap, by simp, by simpa using hl, hm, by simpa using hlen, fun k u hk => ?_⟩
    have hk' : k < len := by simpa using (List.getElem?_eq_some_iff.1 hk).1
    have hu : u = q k := by
      rw [List.getElem?_map, List.getElem?_range hk'] at hk
      simpa using hk.symm
    subst hu
    have h0 := hq k (by omega)
    obtain ⟨g, o, rfl⟩ := addr_of_cell (by have := hq 0 (by omega); rw [add_zero'] at this; exact this)
    rw [add_off] at h0
    exact ⟨g, o, rfl, h0⟩

set_option maxRecDepth 100000 in
theorem open_act {n : Nat} {cs : List Value} {d : DataW H} {p : List MemPlace} (h : DataW.trod enc Tryz.prog W base' sp held n 69 cs = some (d, p)) (hw : (d.weights Tryz.prog 69).all (· ≤ reachBytes) = true) :
    ∃ x pv, cs = actVal x pv ∧ ActOk x ∧ BytesIn W pv x.picks := by
  have hu : Tryz.prog.underlying 69 = some (.struct _) := Tryz.underlying69
  obtain ⟨xs, k, rfl, hx, hl, hxl, hf⟩ := DataW.trod_struct hu h
  rw [show Tryz.prog.cellsOf 69 = 7 by kernel_rfl] at hl
  match cs, hl, xs, hxl with
  | [v0, v1, v2, v3, v4, v5, v6], _, [y0, y1, y2, y3, y4, y5, y6], _ =>
    have g0 := hf 0 _ rfl
    have g1 := hf 1 _ rfl
    have g2 := hf 2 _ rfl
    have g3 := hf 3 _ rfl
    have g4 := hf 4 _ rfl
    have g5 := hf 5 _ rfl
    have g6 := hf 6 _ rfl
    rw [show Tryz.prog.cellsOf _ = 1 by kernel_rfl] at g0 g1 g2 g3 g4 g5 g6
    have g0 : DataW.trod enc Tryz.prog W base' sp held k 3 [v0] = some y0 := g0
    have g1 : DataW.trod enc Tryz.prog W base' sp held k 9 [v1] = some y1 := g1
    have g2 : DataW.trod enc Tryz.prog W base' sp held k 9 [v2] = some y2 := g2
    have g3 : DataW.trod enc Tryz.prog W base' sp held k 9 [v3] = some y3 := g3
    have g4 : DataW.trod enc Tryz.prog W base' sp held k 3 [v4] = some y4 := g4
    have g5 : DataW.trod enc Tryz.prog W base' sp held k 2 [v5] = some y5 := g5
    have g6 : DataW.trod enc Tryz.prog W base' sp held k 22 [v6] = some y6 := g6
    obtain ⟨rfl, rfl⟩ := Prod.mk.inj hx
    unfold DataW.weights at hw
    rw [hu] at hw
    simp only [List.map_cons, List.map_nil, DataW.weightsEach, List.all_append, Bool.and_eq_true] at hw
    obtain ⟨w0, w1, w2, w3, w4, w5, w6, _⟩ := hw
    obtain ⟨z0, e0, r0⟩ := trod_rng Tryz.underlying3 g0
    obtain ⟨s1, e1, r1⟩ := trod_str Tryz.underlying9 g1 w1
    obtain ⟨s2, e2, r2⟩ := trod_str Tryz.underlying9 g2 w2
    obtain ⟨s3, e3, r3⟩ := trod_str Tryz.underlying9 g3 w3
    obtain ⟨z4, e4, r4⟩ := trod_rng Tryz.underlying3 g4
    obtain ⟨z5, e5, _⟩ := trod_rng (show Tryz.prog.underlying 2 = some (.int .i64) by kernel_rfl) g5
    obtain ⟨ks, hk⟩ := open_bytes_trod (d := y6.1) (p := y6.2) g6 w6
    simp only [List.cons.injEq, and_true] at e0 e1 e2 e3 e4 e5
    subst e0 e1 e2 e3 e4 e5
    exact ⟨⟨z0, s1, s2, s3, z4, z5, ks⟩, v6, rfl, ⟨r0, r4, r1, r2, r3⟩, hk⟩

set_option maxRecDepth 100000 in
theorem open_acts {b : Nat} {r : Reach} {v : Value} {d : DataW H} {p : List MemPlace} (hv : Value.okWide Tryz.prog W r b 51 v) (h : DataW.Trod enc Tryz.prog W base' sp held 51 v d p) (hw : (d.weights Tryz.prog 51).all (· ≤ reachBytes) = true) :
    ∃ l, ActsIn W v l := by
  obtain ⟨o, len, cap, rfl⟩ := okWide_slice (show Tryz.prog.underlying 51 = some (.slice 69) by kernel_rfl) hv
  obtain ⟨fuel, hf⟩ := h
  rcases Go.Deep.open_slice (show Tryz.prog.underlying 51 = some (.slice 69) by kernel_rfl) hf with ⟨hcs, _⟩ | ⟨a, len', cap', m, n, D, Pl, hcs, _, hl, hm, hmm, hx, hc⟩
  · obtain ⟨rfl, rfl, rfl⟩ : o = none ∧ len = 0 ∧ cap = 0 := by simpa [Value.cells] using hcs
    exact ⟨[], none, 0, rfl, Nat.le_refl _, by decide, fun k u hk => by simp at hk⟩
  · obtain ⟨rfl, rfl, rfl⟩ : o = some a ∧ len = len' ∧ cap = cap' := by simpa [Value.cells] using hcs
    have hlm : len ≤ m := by rw [hmm]; split <;> omega
    have hd : d = .slice ((List.range len).map D) ((List.range (m - len)).map fun j => D (len + j)) := congrArg Prod.fst hx
    subst hd
    have hwt := (weights_mem (show Tryz.prog.underlying 51 = some (.slice 69) by kernel_rfl) hw).2
    rw [show Tryz.prog.cellsOf 69 = 7 by kernel_rfl] at hc
    have each : ∀ i, i < len → ∃ y : ActR × Value, (∀ (j : Nat) u, (actVal y.1 y.2)[j]? = some u → W.cell? (a.add (i * 7 + j)) = some u) ∧ ActOk y.1 ∧ BytesIn W y.2 y.1.picks := by
      intro i hi
      obtain ⟨cs', h1, h2⟩ := hc i (by omega)
      obtain ⟨x, pv, rfl, hx1, hx2⟩ := open_act h2 (hwt i hi)
      obtain ⟨_, _, hcell⟩ := World.cells?_some h1
      refine ⟨(x, pv), fun j u hj => ?_, hx1, hx2⟩
      have hj7 : j < 7 := (List.getElem?_eq_some_iff.1 hj).1
      have := hcell j hj7
      rw [Go.Deep.add_add] at this
      exact this.trans hj
    have : Inhabited (ActR × Value) := ⟨⟨⟨0, ⟨#[]⟩, ⟨#[]⟩, ⟨#[]⟩, 0, 0, []⟩, .nilFunc⟩⟩
    obtain ⟨q, hq⟩ := Go.Deep.choose_lt each
    refine ⟨(List.range len).map fun i => (q i).1, some a, cap, by simp, by simpa using hl, hm, fun k x hk => ?_⟩
    have hk' : k < len := by simpa using (List.getElem?_eq_some_iff.1 hk).1
    have hu : x = (q k).1 := by
      rw [List.getElem?_map, List.getElem?_range hk'] at hk
      simpa using hk.symm
    subst hu
    obtain ⟨h1, h2, h3⟩ := hq k hk'
    obtain ⟨g, o, rfl⟩ := addr_of_cell (by have := (hq 0 (by omega)).1 0 _ rfl; rw [Nat.zero_mul, add_zero'] at this; exact this)
    refine ⟨h2, g, o, (q k).2, rfl, h3, fun j u hj => ?_⟩
    have := h1 j u hj
    rw [add_off, ← Nat.add_assoc] at this
    exact this

set_option maxRecDepth 100000 in
theorem open_bytes_arg {b : Nat} {r : Reach} {v : Value} {d : DataW H} {p : List MemPlace} (hv : Value.okWide Tryz.prog W r b 22 v) (h : DataW.Trod enc Tryz.prog W base' sp held 22 v d p) (hw : (d.weights Tryz.prog 22).all (· ≤ reachBytes) = true) :
    ∃ ks, BytesIn W v ks := by
  obtain ⟨o, len, cap, rfl⟩ := okWide_slice (show Tryz.prog.underlying 22 = some (.slice 5) by kernel_rfl) hv
  obtain ⟨fuel, hf⟩ := h
  exact open_bytes_trod hf hw
end
end Go.Proofs.YtldppmjjgljinaaGreatDoor
