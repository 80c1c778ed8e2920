/- caravan/temp's Open: contract, where no finder is given. caravan/temp's Open makes a draft: the parts of its contract. Which blocks a draft has, behind Open, Put and Save: plain law. caravan/temp's Open makes a draft: contract, where no finder is given. -/
import Derived.Test.YtldppmjjgljinaaGreatDoorTempH
import Derived.Test.YtldppmjjgljinaaGreatDoorHeldBy
namespace Go.Proofs.YtldppmjjgljinaaGreatDoor
open Go.RowKit

set_option maxRecDepth 100000 in
set_option maxHeartbeats 2000000 in
theorem open_nil (root : ByteArray) (C : Array Value) (f : Value) (w : World) : Calls Tryz.prog 15 #[.pointer none, .string root, .agg C, f] w fun e w' => e = .returned (.tuple #[.pointer none, .int .i64 1]) ∧ Ext w w' := by
  have HX := Lib.hid ((Ext.refl w).alloc (.cells C 31))
  go_enter Tryz.func15, Tryz.ntmps15
  go_wp2_with fail
  go_ret2
  exact ⟨rfl, HX.out⟩
set_option maxRecDepth 100000 in
set_option maxHeartbeats 2000000 in
theorem open_path (root : ByteArray) (r : RecS) (C : Array Value) (bl f : Value) (dv : Addr) (w : World) (hC : RecC C r bl) (E : Env w) (T : ShaTabs w) (hs : r.path.size < 4294967281) (hr : root.size ≤ 2147483648) (hp : placeB root r.path = false) :
    Calls Tryz.prog 15 #[.pointer (some dv), .string root, .agg C, f] w fun e w' => e = .returned (.tuple #[.pointer none, .int .i64 10]) ∧ Ext w w' := by
  have HX := Lib.hid ((Ext.refl w).alloc (.cells C 31))
  have HPl := Lib.hid (place_any root r.path _ hs hr (E.ext HX.out) (T.ext HX.out))
  rw [hp] at HPl
  have k0 := (cellB (k := 0) (block_alloc_new w (.cells C 31 (0, 0)))).trans hC.c0
  generalize placeS root r.path = name at *
  clear hC E T hs hr hp
  go_enter Tryz.func15, Tryz.ntmps15
  go_wp2_with fail
  refine HPl.out.mono ?_
  rintro e w1 ⟨rfl, x1⟩
  have HX1 := Lib.hid (HX.out.trans x1)
  clear x1 HPl k0
  go_wp2_with fail
  go_ret2
  exact ⟨rfl, HX1.out⟩
set_option maxRecDepth 100000 in
set_option maxHeartbeats 4000000 in
theorem open_err (root : ByteArray) (r : RecS) (C : Array Value) (bl f : Value) (w : World) (hC : RecC C r bl) (hb : ∃ a cap, bl = .slice a r.hs.length cap) (hlo : -9223372036854775808 ≤ r.size) (hhi : r.size ≤ 9223372036854775807) (E : Env w) (T : ShaTabs w) (hs : r.path.size < 4294967281) (hr : root.size ≤ 2147483648) (hp : placeB root r.path = true) (hw : r.wanted ≠ 0)
    (d : Nat) (M I : List Nat) (K : Dk) (hd : DkAt w d M I K) (hdt : (readE K.live (placeS root r.path)).1.data.size ≤ 1048576) :
    Calls Tryz.prog 15 #[.pointer (some ⟨d, 0, none⟩), .string root, .agg C, f] w fun e w' => e = .returned (.tuple #[.pointer none, .int .i64 r.wanted]) ∧ Ext w w' := by
  have HX := Lib.hid ((Ext.refl w).alloc (.cells C 31))
  have HPl := Lib.hid (place_any root r.path _ hs hr (E.ext HX.out) (T.ext HX.out))
  rw [hp] at HPl
  have hnz : (placeS root r.path).size < 4294967281 := by
    have := tempR_le r.path
    unfold placeS
    simp only [ByteArray.size_append, size_mk]; simp; omega
  have HRd := fun w' (x : Ext w w') => Lib.hid (Read_any (hd.ext x) (E.ext x) (placeS root r.path) hnz)
  unfold nv at HRd
  have HPn := fun w' v => Lib.hid (cplan_err r C bl f v w' hC hb hlo hhi hw)
  have hB := block_alloc_new w (.cells C 31 (0, 0))
  have HB := Lib.hid hB
  have k0 := (cellB (k := 0) hB).trans hC.c0
  have HCz := Lib.hid (show (Tryz.prog.info? 31).map (·.size) = some C.size from by rw [hC.n]; kernel_rfl)
  have W0 := Lib.hid (show (r.wanted != 0) = true from by rw [bne_iff_ne]; exact hw)
  generalize placeS root r.path = name at *
  generalize (readE K.live name).1 = nd at *
  generalize (readE K.live name).2 = z at *
  generalize r.wanted = wt at *
  obtain ⟨nk, ndt, nt, ntm⟩ := nd
  have HDt := Lib.hid hdt
  clear hC E T hs hr hp hnz hB hd hb hlo hhi hw hdt
  go_enter Tryz.func15, Tryz.ntmps15
  go_wp2_with fail
  refine HPl.out.mono ?_
  rintro e w1 ⟨rfl, x1⟩
  have HX1 := Lib.hid (HX.out.trans x1)
  have HB1 := Lib.hid ((x1.block (ltB HB.out)).trans HB.out)
  clear x1 HPl k0
  go_wp2_with fail
  refine (HRd _ HX1.out).out.mono ?_
  rintro e w2 ⟨rfl, x2⟩
  have HX2 := Lib.hid ((HX1.out.trans x2).alloc (.cells #[.int .i64 nk, .string ndt, .string nt, .int .i64 ntm] 57))
  have HB2 := Lib.hid (((x2.alloc (.cells #[.int .i64 nk, .string ndt, .string nt, .int .i64 ntm] 57)).block (ltB HB1.out)).trans HB1.out)
  obtain ⟨cv, wc, hcv, hbo, xc⟩ := conv_bytes ndt (w2.alloc (.cells #[.int .i64 nk, .string ndt, .string nt, .int .i64 ntm] 57)) HDt.out
  have HXc := Lib.hid (HX2.out.trans xc)
  have HPc := HPn wc cv
  clear x2 HRd HPn hbo xc
  go_wp2_with (refine wpList_load_row rfl 31 (.tmp 6) rfl w.heap.size rfl 31 C (0, 0) _ HB2.out Tryz.underlying31 rfl HCz.out ?_; go_frame)
  refine HPc.out.mono ?_
  rintro e w4 ⟨rfl, x4⟩
  have HX4 := Lib.hid (HXc.out.trans x4)
  have w0 := W0.out
  clear x4 HPc hcv
  go_wp2_with fail
  go_ret2
  exact ⟨rfl, HX4.out⟩
end Go.Proofs.YtldppmjjgljinaaGreatDoor

namespace Go.Proofs.YtldppmjjgljinaaGreatDoor
open Go.RowKit

theorem wpQuiet_buildAs {P : Program} {ops : Array Oper} {Cl : World → Prop} {Q : Act → Prop} {a : Act} {o : Oper} {rest : List Oper} (cells : Array Value) (hgd : o.guard = none) (t : TypeId) (parts : Array (Nat × Operand)) (ho : o.op = .build t parts)
    (hf : P.built t (parts.map fun (i, x) => (i, a.eval x)).toList = some cells) (h : wpQuiet P ops Cl Q rest (a.put o.dst (.agg cells))) : wpQuiet P ops Cl Q (o :: rest) a :=
  wpQuiet_step fun K hK => by
    rw [if_pos (by simp only [Region.wanted, hgd])]
    refine ⟨.agg cells, fun w hw => ?_, hK _ h⟩
    unfold Oper.quietAt execOp
    simp only [ho, Sem.run_bind, Sem.run_pure, Result.andThen_ok, run_build w t _ cells hf]
    exact ⟨rfl, rfl⟩
theorem cells27 {C : Array Value} (h : C.size = 27) : ∃ a0 a1 a2 a3 a4 a5 a6 a7 a8 a9 a10 a11 a12 a13 a14 a15 a16 a17 a18 a19 a20 a21 a22 a23 a24 a25 a26, C = #[a0, a1, a2, a3, a4, a5, a6, a7, a8, a9, a10, a11, a12, a13, a14, a15, a16, a17, a18, a19, a20, a21, a22, a23, a24, a25, a26] := by
  obtain ⟨l⟩ := C
  replace h : l.length = 27 := h
  iterate 27
    rcases l with _ | ⟨_, l⟩
    · simp at h
  rcases l with _ | ⟨_, l⟩
  · exact ⟨_, _, _, _, _, _, _, _, _, _, _, _, _, _, _, _, _, _, _, _, _, _, _, _, _, _, _, rfl⟩
  · simp at h
set_option maxRecDepth 100000 in
theorem built_wanted {C : Array Value} (h : C.size = 27) : Tryz.prog.built 115 [(0, .agg C)] = some C := by
  obtain ⟨a0, a1, a2, a3, a4, a5, a6, a7, a8, a9, a10, a11, a12, a13, a14, a15, a16, a17, a18, a19, a20, a21, a22, a23, a24, a25, a26, rfl⟩ := cells27 h
  kernel_rfl
set_option maxRecDepth 100000 in
theorem built_draft {C : Array Value} (h : C.size = 27) (nm : ByteArray) (a : Option Addr) (n c : Nat) : Tryz.prog.built 118 [(0, .agg C), (1, .string nm), (2, .slice a n c)] = some (C ++ #[.string nm, .slice a n c]) := by
  obtain ⟨a0, a1, a2, a3, a4, a5, a6, a7, a8, a9, a10, a11, a12, a13, a14, a15, a16, a17, a18, a19, a20, a21, a22, a23, a24, a25, a26, rfl⟩ := cells27 h
  kernel_rfl
/-- The record of a draft: its blocks are a copy. -/
theorem RecC.turned {C : Array Value} {r : RecS} {bl u : Value} (h : RecC C r bl) : RecC (C.setIfInBounds 23 u) r u where
  n := by rw [Array.size_setIfInBounds]; exact h.n
  c0 := by rw [Array.getElem?_setIfInBounds_ne (by decide)]; exact h.c0
  c1 := by rw [Array.getElem?_setIfInBounds_ne (by decide)]; exact h.c1
  c2 := by rw [Array.getElem?_setIfInBounds_ne (by decide)]; exact h.c2
  c3 := by rw [Array.getElem?_setIfInBounds_ne (by decide)]; exact h.c3
  c4 := by rw [Array.getElem?_setIfInBounds_ne (by decide)]; exact h.c4
  c22 := by rw [Array.getElem?_setIfInBounds_ne (by decide)]; exact h.c22
  c23 := by rw [Array.getElem?_setIfInBounds_self_of_lt (by rw [h.n]; decide)]
/-- A new draft has no part. -/
theorem DrIn.new {w : World} {p g : Nat} {C : Array Value} {u : Value} {I : List Nat} {r : RecS} {N : Nat} {name : ByteArray} (G : r.Good N) (hC : RecC C r u) (hp : w.heap[p]? = some (.cells (C ++ #[.string name, .slice (some ⟨g, 0, none⟩) (countN N) (countN N)]) 118 (0, 0)))
    (hg : w.heap[g]? = some (.cells (Array.replicate (countN N) (.slice none 0 0)) 22 (0, 0))) (hh : HashesAt w u r.hs) (hI : ∀ b o n c, u = .slice (some ⟨b, o, none⟩) n c → b ∈ I) (him : ∀ b ∈ I, b ≠ g ∧ b < w.heap.size) (hs : p ∈ I) :
    DrIn w p g (C ++ #[.string name, .slice (some ⟨g, 0, none⟩) (countN N) (countN N)]) (Array.replicate (countN N) (.slice none 0 0)) u I r N name (List.replicate (countN N) none) where
  good := G
  blk := hp
  n := by rw [Array.size_append, hC.n]; rfl
  rc := by
    rw [Array.extract_append, hC.n]
    simp only [Nat.sub_self, Nat.zero_sub, Array.extract_zero, Array.append_empty]
    rw [show C.extract 0 27 = C from by rw [← hC.n]; exact Array.extract_size]
    exact hC
  c27 := by rw [Array.getElem?_append_right (by rw [hC.n]; decide), hC.n]; rfl
  c28 := by rw [Array.getElem?_append_right (by rw [hC.n]; decide), hC.n, List.length_replicate]; rfl
  hs := hh
  hsI := hI
  len := List.length_replicate ..
  row := hg
  size := by simp
  parts := fun k x hx => by
    rw [List.getElem?_replicate] at hx
    split at hx
    · rename_i hk
      cases hx
      exact ⟨.slice none 0 0, by rw [Array.getElem?_replicate, if_pos hk], rfl⟩
    · cases hx
  imm := him
  self := hs
end Go.Proofs.YtldppmjjgljinaaGreatDoor

namespace Go.Proofs.YtldppmjjgljinaaGreatDoor

/-- What a draft has when it is opened and the first k blocks that stand have been looked at. -/
def openTo (N : Nat) (hs : List (List UInt8)) (t : List UInt8) : Nat → List (Option (List UInt8))
  | 0 => List.replicate (countN N) none
  | k + 1 => if rightB N hs k (placedL N t k) = true then fillP N hs k (placedL N t k) (openTo N hs t k) else openTo N hs t k
theorem stepP_temp (N : Nat) (hs : List (List UInt8)) (t : List UInt8) (i : Nat) : (stepP N hs t i).1 = 1 ↔ rightB N hs i (placedL N t i) = true := by
  unfold stepP
  constructor
  · intro h
    split at h
    · assumption
    · split at h <;> cases h
  · intro h
    rw [if_pos h]
theorem fillP_len (N : Nat) (hs : List (List UInt8)) (i : Nat) (l : List UInt8) (ps : List (Option (List UInt8))) : (fillP N hs i l ps).length = ps.length := by simp [fillP]
theorem openTo_len (N : Nat) (hs : List (List UInt8)) (t : List UInt8) : ∀ k, (openTo N hs t k).length = countN N
  | 0 => by simp [openTo]
  | k + 1 => by
    unfold openTo
    split
    · rw [fillP_len, openTo_len N hs t k]
    · exact openTo_len N hs t k
theorem haveB_fill (N : Nat) (hs : List (List UInt8)) (i : Nat) (l : List UInt8) (ps : List (Option (List UInt8))) {k : Nat} (hk : k < ps.length) : haveB (fillP N hs i l ps) k = (haveB ps k || sameL N hs l i k) := by
  unfold haveB fillP
  rw [List.getElem?_mapIdx, List.getElem?_eq_getElem hk]
  simp only [Option.map_some]
  cases h : sameL N hs l i k
  · simp
  · simp
theorem sameL_same {N : Nat} {hs : List (List UInt8)} {l : List UInt8} {i k : Nat} (h : l.length = lenN N i) : sameL N hs l i k = sameB N hs k i := by
  unfold sameL sameB
  rw [h]
theorem sameB_refl (N : Nat) (hs : List (List UInt8)) (k : Nat) : sameB N hs k k = true := by simp [sameB]
theorem sameB_iff {N : Nat} {hs : List (List UInt8)} {i k : Nat} : sameB N hs i k = true ↔ hs[i]? = hs[k]? ∧ lenN N i = lenN N k := by simp [sameB]
theorem sameB_symm {N : Nat} {hs : List (List UInt8)} {i k : Nat} (h : sameB N hs i k = true) : sameB N hs k i = true := by
  rw [sameB_iff] at h ⊢
  exact ⟨h.1.symm, h.2.symm⟩
theorem sameB_trans {N : Nat} {hs : List (List UInt8)} {i j k : Nat} (h : sameB N hs i j = true) (h2 : sameB N hs j k = true) : sameB N hs i k = true := by
  rw [sameB_iff] at h h2 ⊢
  exact ⟨h.1.trans h2.1, h.2.trans h2.2⟩
/-- Of blocks that are the same either each is there or none. -/
def ShutP (N : Nat) (hs : List (List UInt8)) (ps : List (Option (List UInt8))) : Prop := ∀ i k, i < countN N → k < countN N → sameB N hs i k = true → haveB ps i = true → haveB ps k = true
theorem ShutP.fill {N : Nat} {hs : List (List UInt8)} {ps : List (Option (List UInt8))} (h : ShutP N hs ps) (hl : ps.length = countN N) {j : Nat} {l : List UInt8} (hr : l.length = lenN N j) : ShutP N hs (fillP N hs j l ps) := fun i k hi hk hs2 hh => by
  rw [haveB_fill _ _ _ _ _ (by omega), sameL_same hr, Bool.or_eq_true] at hh ⊢
  rcases hh with hh | hh
  · exact .inl (h i k hi hk hs2 hh)
  · exact .inr (sameB_trans (sameB_symm hs2) hh)
theorem haveB_none (n k : Nat) : haveB (List.replicate n none) k = false := by
  unfold haveB
  rw [List.getElem?_replicate]
  split <;> simp_all
theorem PsOk.none (N : Nat) (hs : List (List UInt8)) (n : Nat) : PsOk N hs (List.replicate n none) := fun k l h => by
  rw [List.getElem?_replicate] at h
  split at h <;> cases h
theorem openTo_spec (N : Nat) (hs : List (List UInt8)) (t : List UInt8) : ∀ n, n ≤ countN N → PsOk N hs (openTo N hs t n) ∧ ShutP N hs (openTo N hs t n) ∧ ∀ k, k < countN N → haveB (openTo N hs t n) k = (List.range n).any fun i => rightB N hs i (placedL N t i) && sameB N hs k i
  | 0, _ => by
    refine ⟨PsOk.none _ _ _, fun i k hi _ _ h => ?_, fun k _ => ?_⟩
    · simp [openTo, haveB_none] at h
    · simp [openTo, haveB_none]
  | n + 1, hn => by
    obtain ⟨h1, h2, h3⟩ := openTo_spec N hs t n (by omega)
    unfold openTo
    have hlen := openTo_len N hs t n
    cases hr : rightB N hs n (placedL N t n)
    · rw [if_neg (by simp)]
      refine ⟨h1, h2, fun k hk => ?_⟩
      rw [h3 k hk, List.range_succ]
      simp [hr]
    · rw [if_pos rfl]
      have hl := right_len hr
      refine ⟨h1.fill hr, h2.fill hlen hl, fun k hk => ?_⟩
      rw [haveB_fill _ _ _ _ _ (by omega), sameL_same hl, h3 k hk, List.range_succ]
      simp [hr]
theorem farTo_cut (N : Nat) (ps : List (Option (List UInt8))) (i : Nat) : ∀ m, ∃ r, farTo N ps (i + 1 + m) = farTo N ps i ++ (partF N ps i ++ r)
  | 0 => ⟨[], by rw [Nat.add_zero, farTo_succ, List.append_nil]⟩
  | m + 1 => by
    obtain ⟨r, h⟩ := farTo_cut N ps i m
    exact ⟨r ++ partF N ps (i + 1 + m), by rw [← Nat.add_assoc, farTo_succ, h]; simp⟩
theorem farL_cut {N : Nat} {hs : List (List UInt8)} {ps : List (Option (List UInt8))} (h : PsOk N hs ps) {i : Nat} (hi : i < countN N) : ((farL N ps).drop (i * sizeN N)).take (lenN N i) = partF N ps i := by
  obtain ⟨r, hr⟩ := farTo_cut N ps i (countN N - (i + 1))
  rw [show i + 1 + (countN N - (i + 1)) = countN N from by omega] at hr
  unfold farL
  have h1 := farTo_len h i
  have h2 := (count_spec N i).1 hi
  rw [hr, List.drop_append, List.drop_eq_nil_of_le (by omega), h1, show i * sizeN N - min (i * sizeN N) N = 0 from by omega, List.drop_zero, List.nil_append, List.take_append,
    List.take_of_length_le (by rw [partF_len h]; exact Nat.le_refl _), partF_len h, Nat.sub_self, List.take_zero, List.append_nil]
theorem placed_far {N : Nat} {hs : List (List UInt8)} {ps : List (Option (List UInt8))} (h : PsOk N hs ps) {i : Nat} (hi : i < countN N) : placedL N (farL N ps) i = partF N ps i := by
  unfold placedL
  rw [farL_len h, if_pos (by have := (count_spec N i).1 hi; unfold lenN; omega), farL_cut h hi]
theorem partL_far {N : Nat} {hs : List (List UInt8)} {ps : List (Option (List UInt8))} (h : PsOk N hs ps) {i : Nat} (hi : i < countN N) : partL (farL N ps) i = partF N ps i := by
  unfold partL
  rw [farL_len h]
  have h1 := farL_cut h hi
  have h2 : ((farL N ps).drop (i * sizeN N)).length = N - i * sizeN N := by rw [List.length_drop, farL_len h]
  rw [← h1]
  unfold lenN
  rcases Nat.le_total (sizeN N) (N - i * sizeN N) with h3 | h3
  · rw [Nat.min_eq_left h3]
  · rw [Nat.min_eq_right h3, List.take_of_length_le (by omega), List.take_of_length_le (by omega)]
/-- Is a block's digest that of as many bytes 0? -/
def zeroB (N : Nat) (hs : List (List UInt8)) (k : Nat) : Bool := decide (hs[k]? = some (shaL (List.replicate (lenN N k) 0)))
theorem right_far {N : Nat} {hs : List (List UInt8)} {ps : List (Option (List UInt8))} (h : PsOk N hs ps) {i : Nat} (hi : i < countN N) : rightB N hs i (placedL N (farL N ps) i) = (haveB ps i || (!haveB ps i && zeroB N hs i)) := by
  rw [placed_far h hi]
  unfold haveB
  have hl := partF_len h i
  split
  · rename_i l he
    have : partF N ps i = l := by unfold partF; rw [he]
    rw [this, h i l he]
    simp
  · rename_i hne
    have : partF N ps i = List.replicate (lenN N i) 0 := by
      unfold partF
      split
      · rename_i l he
        exact absurd he (hne l)
      · rfl
    rw [this]
    unfold rightB zeroB
    simp
/-- What is opened behind Save has what the saved one had, and what is all zeros. -/
theorem have_saved {N : Nat} {hs : List (List UInt8)} {ps : List (Option (List UInt8))} (h : PsOk N hs ps) (S : ShutP N hs ps) {k : Nat} (hk : k < countN N) : haveB (openTo N hs (farL N ps) (countN N)) k = (haveB ps k || zeroB N hs k) := by
  rw [(openTo_spec N hs (farL N ps) (countN N) (Nat.le_refl _)).2.2 k hk, Bool.eq_iff_iff, List.any_eq_true]
  constructor
  · rintro ⟨i, hi, h1⟩
    rw [List.mem_range] at hi
    rw [right_far h hi] at h1
    simp only [Bool.and_eq_true, Bool.or_eq_true] at h1 ⊢
    obtain ⟨h1 | ⟨_, h1⟩, h2⟩ := h1
    · exact .inl (S i k hi hk (sameB_symm h2) h1)
    · right
      rw [sameB_iff] at h2
      unfold zeroB at h1 ⊢
      rw [decide_eq_true_eq] at h1 ⊢
      rw [h2.1, h2.2]
      exact h1
  · intro h1
    refine ⟨k, List.mem_range.2 hk, ?_⟩
    rw [right_far h hk, sameB_refl, Bool.and_true]
    rw [Bool.or_eq_true] at h1
    rcases h1 with h1 | h1
    · rw [h1]; rfl
    · rw [h1]; cases haveB ps k <;> rfl
/-- When all that is asked for is there, all is there. -/
theorem have_all {N : Nat} {hs : List (List UInt8)} {ps qs : List (Option (List UInt8))} (S : ShutP N hs qs) (h1 : ∀ k, k < countN N → haveB ps k = true → haveB qs k = true) (h2 : ∀ k, k < countN N → askB N hs ps k = true → haveB qs k = true) (k : Nat) (hk : k < countN N) : haveB qs k = true := by
  cases hp : haveB ps k
  · cases ha : taheadB N hs k
    · exact h2 k hk (by unfold askB; rw [hp, ha]; rfl)
    · unfold taheadB at ha
      obtain ⟨j, hj, hs2⟩ := List.any_eq_true.1 ha
      rw [List.mem_range] at hj
      -- the first of those that are the same
      have : ∀ n j, j < n → j < countN N → sameB N hs j k = true → haveB qs k = true := by
        intro n
        induction n with
        | zero => intro j h; omega
        | succ n ih =>
          intro j hj hjc hs3
          cases hpj : haveB ps j
          · cases haj : taheadB N hs j
            · exact S j k hjc hk hs3 (h2 j hjc (by unfold askB; rw [hpj, haj]; rfl))
            · unfold taheadB at haj
              obtain ⟨i, hi, hs4⟩ := List.any_eq_true.1 haj
              rw [List.mem_range] at hi
              exact ih i (by omega) (by omega) (sameB_trans hs4 hs3)
          · exact S j k hjc hk hs3 (h1 j hjc hpj)
      exact this (j + 1) j (by omega) (by omega) hs2
  · exact h1 k hk hp
theorem done_all {N : Nat} {hs : List (List UInt8)} {ps : List (Option (List UInt8))} (h : ∀ k, k < countN N → haveB ps k = true) : doneB N hs ps = true := by
  unfold doneB
  rw [List.isEmpty_iff, List.filter_eq_nil_iff]
  intro k hk
  rw [List.mem_range] at hk
  unfold askB
  rw [h k hk]
  simp
theorem have_part {N : Nat} {ps : List (Option (List UInt8))} {k : Nat} (h : haveB ps k = true) : ps[k]? = some (some (partF N ps k)) := by
  unfold haveB at h
  split at h
  · rename_i l he
    unfold partF
    rw [he]
  · cases h
theorem hashes_far {N : Nat} {hs : List (List UInt8)} {ps : List (Option (List UInt8))} (h : PsOk N hs ps) (ha : ∀ k, k < countN N → haveB ps k = true) (hl : hs.length = countN N) : hashesL (farL N ps) = hs := by
  apply List.ext_getElem?
  intro k
  unfold hashesL
  rw [farL_len h]
  by_cases hk : k < countN N
  · rw [List.getElem?_map, List.getElem?_range hk, Option.map_some, partL_far h hk]
    have h1 := h k _ (have_part (N := N) (ha k hk))
    unfold rightB at h1
    simp only [Bool.and_eq_true, decide_eq_true_eq] at h1
    exact h1.2.symm
  · rw [List.getElem?_eq_none (by simp; omega), List.getElem?_eq_none (by omega)]
theorem hashesL_len (l : List UInt8) : (hashesL l).length = countN l.length := by simp [hashesL]
theorem hashesL_get (l : List UInt8) {k : Nat} (h : k < countN l.length) : (hashesL l)[k]? = some (shaL (partL l k)) := by
  unfold hashesL
  rw [List.getElem?_map, List.getElem?_range h, Option.map_some]
/-- A file's own block is right. -/
theorem right_part (l : List UInt8) {k : Nat} (h : k < countN l.length) : rightB l.length (hashesL l) k (partL l k) = true := by
  unfold rightB
  rw [hashesL_get l h, part_len]
  simp [lenN]
theorem zeroB_part (l : List UInt8) {k : Nat} (h : k < countN l.length) : zeroB l.length (hashesL l) k = decide (shaL (List.replicate (partL l k).length 0) = shaL (partL l k)) := by
  unfold zeroB
  rw [hashesL_get l h, part_len, decide_eq_decide, Option.some.injEq]
  unfold lenN
  exact eq_comm
/-- Nothing stands: nothing is there. -/
theorem openTo_none (N : Nat) (hs : List (List UInt8)) : ∀ n, n ≤ countN N → openTo N hs [] n = List.replicate (countN N) none
  | 0, _ => rfl
  | n + 1, h => by
    unfold openTo
    have hp : placedL N [] n = [] := by unfold placedL; simp
    rw [hp, if_neg, openTo_none N hs n (by omega)]
    intro hr
    have := right_len hr
    have := lenN_pos (N := N) (i := n) (by omega)
    simp at *
    omega
theorem haveB_put {N : Nat} {hs : List (List UInt8)} {ps : List (Option (List UInt8))} {j : Nat} {l : List UInt8} (hr : rightB N hs j l = true) (hl : ps.length = countN N) {k : Nat} (hk : k < countN N) : haveB (fillP N hs j l ps) k = (haveB ps k || sameB N hs k j) := by
  rw [haveB_fill _ _ _ _ _ (by omega), sameL_same (right_len hr)]
theorem haveB_self {N : Nat} {hs : List (List UInt8)} {ps : List (Option (List UInt8))} {j : Nat} {l : List UInt8} (hr : rightB N hs j l = true) (hl : ps.length = countN N) (hj : j < countN N) : haveB (fillP N hs j l ps) j = true := by
  rw [haveB_put hr hl hj, sameB_refl, Bool.or_true]
theorem haveB_more {N : Nat} {hs : List (List UInt8)} {ps : List (Option (List UInt8))} {j : Nat} {l : List UInt8} (hr : rightB N hs j l = true) (hl : ps.length = countN N) {k : Nat} (hk : k < countN N) (h : haveB ps k = true) : haveB (fillP N hs j l ps) k = true := by
  rw [haveB_put hr hl hk, h, Bool.true_or]
theorem filter_same {c : Nat} {f g : Nat → Bool} (h : ∀ k, k < c → f k = g k) : (List.range c).filter f = (List.range c).filter g :=
  List.filter_congr fun k hk => h k (List.mem_range.1 hk)
theorem askB_same {N : Nat} {hs : List (List UInt8)} {ps qs : List (Option (List UInt8))} (h : ∀ k, k < countN N → haveB ps k = haveB qs k) : (List.range (countN N)).filter (askB N hs ps) = (List.range (countN N)).filter (askB N hs qs) :=
  filter_same fun k hk => by unfold askB; rw [h k hk]
theorem doneB_same {N : Nat} {hs : List (List UInt8)} {ps qs : List (Option (List UInt8))} (h : ∀ k, k < countN N → haveB ps k = haveB qs k) : doneB N hs ps = doneB N hs qs := by
  unfold doneB
  rw [askB_same h]
theorem any_take {α : Type} {l : List α} {i : Nat} {x : α} (h : l[i]? = some x) (f : α → Bool) : (l.take (i + 1)).any f = ((l.take i).any f || f x) := by
  rw [List.take_add_one, h]
  simp
theorem any_drop {α : Type} {l : List α} {i : Nat} {x : α} (hi : i < l.length) (h : l[l.length - 1 - i]? = some x) (f : α → Bool) : (l.drop (l.length - (i + 1))).any f = ((l.drop (l.length - i)).any f || f x) := by
  have e : l.drop (l.length - (i + 1)) = x :: l.drop (l.length - i) := by
    have h1 : l.length - (i + 1) < l.length := by omega
    rw [List.drop_eq_getElem_cons h1, show l.length - (i + 1) + 1 = l.length - i from by omega]
    congr 1
    have h2 : l[l.length - (i + 1)]? = some x := by rw [show l.length - (i + 1) = l.length - 1 - i from by omega]; exact h
    rw [List.getElem?_eq_getElem h1] at h2
    exact Option.some.inj h2
  rw [e, List.any_cons, Bool.or_comm]
/-- The numbers of which something holds, one by one. -/
theorem filter_at {c : Nat} {f : Nat → Bool} {i k : Nat} (h : ((List.range c).filter f)[i]? = some k) : k < c ∧ f k = true ∧ (((List.range c).filter f).take i).contains k = false := by
  have hm := List.mem_of_getElem? h
  rw [List.mem_filter, List.mem_range] at hm
  refine ⟨hm.1, hm.2, ?_⟩
  have hn : ((List.range c).filter f).Nodup := List.Nodup.sublist List.filter_sublist List.nodup_range
  rw [Bool.eq_false_iff]
  intro hc
  rw [List.contains_iff_mem] at hc
  obtain ⟨j, hj, e⟩ := List.mem_iff_getElem.1 hc
  rw [List.getElem_take] at e
  have hj2 : j < i := by rw [List.length_take] at hj; omega
  obtain ⟨hi, e2⟩ := List.getElem?_eq_some_iff.1 h
  have := (List.getElem_inj hn).1 (e.trans e2.symm)
  omega
theorem contains_take {l : List Nat} {i k : Nat} (h : l[i]? = some k) (j : Nat) : (l.take (i + 1)).contains j = ((l.take i).contains j || j == k) := by
  rw [List.take_add_one, h, Bool.eq_iff_iff]
  simp
theorem contains_filter {c : Nat} {f : Nat → Bool} {k : Nat} (hk : k < c) : ((List.range c).filter f).contains k = f k := by
  rw [Bool.eq_iff_iff, List.contains_iff_mem, List.mem_filter, List.mem_range]
  exact ⟨fun h => h.2, fun h => ⟨hk, h⟩⟩
end Go.Proofs.YtldppmjjgljinaaGreatDoor

namespace Go.Proofs.YtldppmjjgljinaaGreatDoor
open Go.RowKit

theorem mkParts (w : World) (n : Nat) (hn : n ≤ 1048576) : (Instr.makeSlice 116 (.int .i64 n) (.int .i64 n)).run Tryz.prog w = .ok (.slice (some ⟨w.heap.size, 0, none⟩) n n) (w.alloc (.cells (Array.replicate n (.slice none 0 0)) 22)) := by
  obtain ⟨i, hi, hz0, hz1, hz2⟩ := info_parts (show (Tryz.prog.info? 22).map (fun i => (i.zero, i.size, i.bytes)) = some (some (.slice none 0 0), 1, 24) from by kernel_rfl)
  have h := run_make w 116 22 i (.slice none 0 0) Tryz.underlying116 hi hz0 .i64 .i64 (n : Int) (n : Int) (by omega) (Int.le_refl _) (by rw [hz2]; omega) (by omega)
  rw [hz1, Int.toNat_natCast, Nat.mul_one] at h
  have e : madeCells (Value.slice none 0 0).cells n = Array.replicate n (.slice none 0 0) := by
    apply Array.ext
    · simp [madeCells]
    · intro j h1 h2
      simp [madeCells, Value.cells, Nat.mod_one]
  rw [e] at h
  exact h
theorem conv_part (s : ByteArray) (w : World) (hs : s.size ≤ 1048576) (h0 : 0 < s.size) : ∃ cap w', (convert 9 22 (.string s)).run Tryz.prog w = .ok (.slice (some ⟨w.heap.size, 0, none⟩) s.toList.length cap) w' ∧ Ext w w' ∧ w.heap.size < w'.heap.size ∧ PartAt w' [w.heap.size] (.slice (some ⟨w.heap.size, 0, none⟩) s.toList.length cap) (some s.toList) := by
  have h := Lib.run_convert_string_bytes (P := Tryz.prog) w 9 22 5 s Tryz.underlying9 Tryz.underlying22 (by kernel_rfl)
  rw [← len_toList] at h
  refine ⟨_, _, h, ⟨rfl, rfl, rfl, by rw [Lib.bytesWorld_size]; omega, fun i hi => Lib.bytesWorld_at_old _ _ _ _ hi⟩, by rw [Lib.bytesWorld_size]; omega, w.heap.size, 0, _, rfl, by rw [len_toList]; exact h0, by rw [len_toList]; exact grownCap_ge _ _ _ _, grownCap_le_maxLen _ _ _ _ (by rw [len_toList]; unfold maxLen; omega), by simp, fun j u hj => ?_⟩
  rw [List.getElem?_map] at hj
  obtain ⟨x, hx, rfl⟩ := Option.map_eq_some_iff.1 hj
  have hj' : j < s.size := by rw [← len_toList]; exact (List.getElem?_eq_some_iff.1 hx).1
  rw [Nat.zero_add, Lib.bytesWorld_cell _ _ _ _ hj', ← Lib.toList_data, List.getD_eq_getElem?_getD, hx]; rfl
theorem placed_some {N k : Nat} {hs : List (List UInt8)} {t : List UInt8} (h : rightB N hs k (placedL N t k) = true) (hk : k < countN N) : k * sizeN N + lenN N k ≤ t.length ∧ placedL N t k = (t.drop (k * sizeN N)).take (lenN N k) := by
  have h1 := right_len h
  have h2 := lenN_pos hk
  unfold placedL at h1 ⊢
  split
  · exact ⟨‹_›, rfl⟩
  · rename_i h3
    rw [if_neg h3] at h1
    simp at h1
    omega
theorem stepL_len (N : Nat) (hs : List (List UInt8)) (t : List UInt8) (k : Nat) : (stepL N hs t k).length = 5 := rfl
theorem stepsL_get {N c k j : Nat} {hs : List (List UInt8)} {t : List UInt8} {u : Value} (hk : k < c) (hj : (stepL N hs t k)[j]? = some u) : (stepsL N hs t c)[k * 5 + j]? = some u := by
  have hj5 : j < 5 := (List.getElem?_eq_some_iff.1 hj).1
  have hlen : ∀ n, (stepsL N hs t n).length = n * 5 := fun n => by
    induction n with
    | zero => rfl
    | succ n ih =>
      rw [show stepsL N hs t (n + 1) = stepsL N hs t n ++ stepL N hs t n from by simp [stepsL, List.range_succ], List.length_append, ih, stepL_len]
      omega
  induction c with
  | zero => omega
  | succ c ih =>
    rw [show stepsL N hs t (c + 1) = stepsL N hs t c ++ stepL N hs t c from by simp [stepsL, List.range_succ]]
    by_cases h : k = c
    · subst h
      rw [List.getElem?_append_right (by rw [hlen]; omega), hlen, Nat.add_sub_cancel_left]
      exact hj
    · rw [List.getElem?_append_left (by rw [hlen]; omega)]
      exact ih (by omega)
set_option maxRecDepth 100000 in
set_option maxHeartbeats 4000000 in
theorem open_ok (root : ByteArray) (r : RecS) (C : Array Value) (bl : Value) (N : Nat) (w : World) (hC : RecC C r bl) (G : r.Good N) (hb : HashesAt w bl r.hs) (hsh : ∃ a n c, bl = .slice a n c ∧ (a = none ∨ ∃ g o, a = some ⟨g, o, none⟩)) (E : Env w) (T : ShaTabs w) (hs : r.path.size < 4294967281) (hr : root.size ≤ 2147483648) (hp : placeB root r.path = true)
    (d : Nat) (M I : List Nat) (K : Dk) (hd : DkAt w d M I K) (hdt : (readE K.live (placeS root r.path)).1.data.size ≤ 1048576) :
    Calls Tryz.prog 15 #[.pointer (some ⟨d, 0, none⟩), .string root, .agg C, .pointer none] w fun e w' => ∃ p g D cs u J, e = .returned (.tuple #[.pointer (some ⟨p, 0, none⟩), .int .i64 0]) ∧ Hid (Ext w w' ∧ DrIn w' p g D cs u J r N (placeS root r.path) (openTo N r.hs (readE K.live (placeS root r.path)).1.data.toList (countN N)) ∧ w.heap.size ≤ g ∧ ∀ b ∈ J, w.heap.size ≤ b) := by
  have HX := Lib.hid ((Ext.refl w).alloc (.cells C 31))
  have HPl := Lib.hid (place_any root r.path _ hs hr (E.ext HX.out) (T.ext HX.out))
  rw [hp] at HPl
  have hnz : (placeS root r.path).size < 4294967281 := by
    have := tempR_le r.path
    unfold placeS
    simp only [ByteArray.size_append, size_mk]; simp; omega
  have HRd := fun w' (x : Ext w w') => Lib.hid (Read_any (hd.ext x) (E.ext x) (placeS root r.path) hnz)
  unfold nv at HRd
  have HPn := fun w' v t (x : Ext w w') (hv : BytesOff w'.heap.size w' v t) => Lib.hid (cplan_ok r C bl N t v w' (T.ext x) hC (hb.ext x) G hv)
  have hc32 := count_le G.small
  have hcn := G.count
  have HCl := fun w' (x : Ext w w') => Lib.hid (cloneHashes_any r.hs bl w' (hb.ext x) (by omega) hsh)
  have hB := block_alloc_new w (.cells C 31 (0, 0))
  have HB := Lib.hid hB
  have k0 := (cellB (k := 0) hB).trans hC.c0
  have HCz := Lib.hid (show (Tryz.prog.info? 31).map (·.size) = some C.size from by rw [hC.n]; kernel_rfl)
  have HC := Lib.hid hC
  have HG := Lib.hid G
  have HC23 := Lib.hid hC.c23
  obtain ⟨ba, bn, bc, rfl, _⟩ := hsh
  generalize placeS root r.path = name at *
  generalize (readE K.live name).1 = nd at *
  generalize (readE K.live name).2 = z at *
  obtain ⟨nk, ndt, nt, ntm⟩ := nd
  have HDt := Lib.hid hdt
  obtain ⟨c, hcc⟩ : ∃ c, c = countN N := ⟨_, rfl⟩
  have HCc := Lib.hid hcc
  rw [← hcc] at HPn hc32 hcn
  clear hC E T hs hr hp hnz hB hd hb hdt hcc G
  go_enter Tryz.func15, Tryz.ntmps15
  go_wp2_with fail
  refine HPl.out.mono ?_
  rintro e w1 ⟨rfl, x1⟩
  have HX1 := Lib.hid (HX.out.trans x1)
  have HB1 := Lib.hid ((x1.block (ltB HB.out)).trans HB.out)
  clear x1 HPl k0
  go_wp2_with fail
  refine (HRd _ HX1.out).out.mono ?_
  rintro e w2 ⟨rfl, x2⟩
  have HX2 := Lib.hid ((HX1.out.trans x2).alloc (.cells #[.int .i64 nk, .string ndt, .string nt, .int .i64 ntm] 57))
  have HB2 := Lib.hid (((x2.alloc (.cells #[.int .i64 nk, .string ndt, .string nt, .int .i64 ntm] 57)).block (ltB HB1.out)).trans HB1.out)
  have HW2 := Lib.hid (show w.heap.size < w2.heap.size from ltB ((x2.block (ltB HB1.out)).trans HB1.out))
  have HNd := Lib.hid (block_alloc_new w2 (.cells #[.int .i64 nk, .string ndt, .string nt, .int .i64 ntm] 57 (0, 0)))
  obtain ⟨cv, wc, hcv, hbo, xc⟩ := conv_bytes ndt (w2.alloc (.cells #[.int .i64 nk, .string ndt, .string nt, .int .i64 ntm] 57)) HDt.out
  have HXc := Lib.hid (HX2.out.trans xc)
  have HBc := Lib.hid ((xc.block (ltB HB2.out)).trans HB2.out)
  have HNc := Lib.hid ((xc.block (ltB HNd.out)).trans HNd.out)
  have HPc := HPn wc cv _ HXc.out hbo
  clear x2 HRd HPn hbo xc
  go_wp2_with (refine wpList_load_row rfl 31 (.tmp 6) rfl w.heap.size rfl 31 C (0, 0) _ HB2.out Tryz.underlying31 rfl HCz.out ?_; go_frame)
  refine HPc.out.mono ?_
  rintro e w4 ⟨sv, rfl, h4⟩
  have H4 := h4
  obtain ⟨sa, scap, rfl⟩ := rowk_shape h4.out.1
  have HX4 := Lib.hid (HXc.out.trans h4.out.2)
  have HB4 := Lib.hid ((h4.out.2.block (ltB HBc.out)).trans HBc.out)
  have HN4 := Lib.hid ((h4.out.2.block (ltB HNc.out)).trans HNc.out)
  have k23 := (cellB (k := 23) HB4.out).trans HC23.out
  have HC4 := HCl _ HX4.out
  clear h4 HPc hcv HCl
  go_wp2_with fail
  refine HC4.out.mono ?_
  rintro e w5 ⟨u, rfl, h5⟩
  have H5 := h5
  have HX5 := Lib.hid (HX4.out.trans h5.out.1)
  have hb5 := (h5.out.1.block (ltB HB4.out)).trans HB4.out
  have HB5 := Lib.hid hb5
  have k23' := (cellB (k := 23) hb5).trans HC23.out
  have f23' := frozenB (k := 23) hb5
  obtain ⟨ua, un, uc, hu⟩ : ∃ a n c, u = .slice a n c := by
    rcases h5.out.2.2.2 with h | ⟨_, _, h⟩
    · exact ⟨_, _, _, h⟩
    · exact ⟨_, _, _, h⟩
  subst hu
  clear h5 HC4 k23 hb5
  go_wp2_with fail
  obtain ⟨W6, hW6⟩ : ∃ W6, W6 = w5.setCell ⟨w.heap.size, 23, none⟩ (.slice ua un uc) := ⟨_, rfl⟩
  have HX6 := Lib.hid (show Ext w W6 from hW6 ▸ HX5.out.setCell (Nat.le_refl _) _)
  have HB6 := Lib.hid (show W6.heap[w.heap.size]? = some (.cells (C.setIfInBounds 23 (.slice ua un uc)) 31 (0, 0)) from hW6 ▸ setCellB HB5.out)
  have HC2 := Lib.hid (HC.out.turned (u := .slice ua un uc))
  have HO6 := Lib.hid (show ∀ b, b ≠ w.heap.size → W6.heap[b]? = w5.heap[b]? from fun b hb => hW6 ▸ setCellO hb)
  have HS6 := Lib.hid (show w5.heap.size ≤ W6.heap.size from by rw [hW6]; simp)
  rw [← hW6]
  have hmk := mkParts W6.drew c (by omega)
  clear hW6 k23' f23'
  have HQ6 := Lib.hid (show ∀ w', (∃ y : After W6, w' = y.v) → w'.heap[w.heap.size]? = some (.cells (C.setIfInBounds 23 (.slice ua un uc)) 31 (0, 0)) from by
    rintro _ ⟨y, rfl⟩
    exact (y.x.block (ltB HB6.out)).trans HB6.out)
  have HC2z := Lib.hid (show (Tryz.prog.info? 31).map (·.size) = some (C.setIfInBounds 23 (.slice ua un uc)).size from by rw [HC2.out.n]; kernel_rfl)
  generalize C.setIfInBounds 23 (.slice ua un uc) = C2 at *
  obtain ⟨Bs, hBs1, hBs2⟩ : ∃ Bs : List Nat, (∀ b ∈ Bs, w.heap.size ≤ b ∧ b < w5.heap.size) ∧ ∀ b o n c, (.slice ua un uc : Value) = .slice (some ⟨b, o, none⟩) n c → b ∈ Bs := by
    have h := H5.out.2.2.1
    have hx := HX4.out.size
    match ua, h with
    | none, _ => exact ⟨[], fun b hb => (by cases hb), fun b o n c e => (by cases e)⟩
    | some ⟨b, o, s⟩, h =>
      refine ⟨[b], fun b' hb => ?_, fun b' o' n c e => by cases e; simp⟩
      obtain rfl := List.mem_singleton.1 hb
      rcases H5.out.2.2.2 with e | ⟨g', c', e⟩
      · cases e
      · cases e
        have := h b' 0 _ _ rfl
        exact ⟨by omega, this.2⟩
  have HBs := Lib.hid (And.intro hBs1 hBs2)
  clear hBs1 hBs2
  have hW6s : w5.heap.size ≤ W6.heap.size := HS6.out
  obtain ⟨g, hg⟩ : ∃ g, g = W6.heap.size := ⟨_, rfl⟩
  have HGq := Lib.hid hg
  refine wp_region_held (S := fun w' => w'.heap[w.heap.size]? = some (.cells C2 31 (0, 0))) (by kernel_rfl) ?_
  change wpAnyH _ _ _ _ _ _ _ _ (World.drew _)
  have s0 := HQ6.out _ ⟨⟨W6.drew, (Ext.refl W6).drew⟩, rfl⟩
  refine wpAnyH_takeL (i := 0) (v := .agg C2) rfl (by kernel_rfl) (by kernel_rfl) (by kernel_rfl) (fun _ _ _ h => h) (yieldsIf_load_row rfl 31 (.tmp 6) rfl w.heap.size rfl 31 C2 (0, 0) _ (fun _ h => h) Tryz.underlying31 rfl HC2z.out) s0 ?_
  go_frame
  refine wpAnyH_takeL (i := 1) (v := .agg C2) rfl (by kernel_rfl) (by kernel_rfl) (by kernel_rfl) (fun _ _ _ h => h) (yieldsIf_build rfl _ _ rfl C2 (built_wanted HC2.out.n)) s0 ?_
  go_frame
  refine wpAnyH_takeL (i := 2) (v := .string name) rfl (by kernel_rfl) (by kernel_rfl) (by kernel_rfl) (fun _ _ _ h => h) (yieldsIf_move rfl _ rfl rfl) s0 ?_
  go_frame
  refine wpAnyH_takeL (i := 3) (v := .slice sa c scap) rfl (by kernel_rfl) (by kernel_rfl) (by kernel_rfl) (fun _ _ _ h => h) (yieldsIf_move rfl _ rfl rfl) s0 ?_
  go_frame
  refine wpAnyH_takeL (i := 4) (v := .int .i64 c) rfl (by kernel_rfl) (by kernel_rfl) (by kernel_rfl) (fun _ _ _ h => h) (Or.inl ⟨rfl, fun w' _ => by go_simp⟩) s0 ?_
  go_frame
  have s1 : (W6.drew.alloc (.cells (Array.replicate c (.slice none 0 0)) 22)).heap[w.heap.size]? = some (.cells C2 31 (0, 0)) := (block_alloc_old (ltB s0)).trans s0
  refine wpAnyH_one (i := 5) (by kernel_rfl) rfl rfl (run_makeOp _ _ _ rfl _ _ _ hmk) s1 ?_
  go_frame
  refine wpAnyH_takeL (i := 6) (v := .agg (C2 ++ #[.string name, .slice (some ⟨W6.drew.heap.size, 0, none⟩) c c])) rfl (by kernel_rfl) (by kernel_rfl) (by kernel_rfl) (fun _ _ _ h => h) (yieldsIf_build rfl _ _ rfl _ (built_draft HC2.out.n _ _ _ _)) s1 ?_
  go_frame
  have s2 : ((W6.drew.alloc (.cells (Array.replicate c (.slice none 0 0)) 22)).alloc (.cells (C2 ++ #[.string name, .slice (some ⟨W6.drew.heap.size, 0, none⟩) c c]) 118)).heap[w.heap.size]? = some (.cells C2 31 (0, 0)) := (block_alloc_old (ltB s1)).trans s1
  refine wpAnyH_one (i := 7) (by kernel_rfl) rfl rfl (run_boxOp _ _ rfl _ (C2 ++ #[.string name, .slice (some ⟨W6.drew.heap.size, 0, none⟩) c c]) rfl) s2 ?_
  go_frame
  refine wpAnyH_takeL (i := 8) (v := .pointer (some ⟨W6.heap.size + 1, 0, none⟩)) rfl (by kernel_rfl) (by kernel_rfl) (by kernel_rfl) (fun _ _ _ h => h) (yieldsIf_assign rfl _ rfl (by rw [show W6.heap.size + 1 = (W6.drew.alloc (.cells (Array.replicate c (.slice none 0 0)) 22)).heap.size from (size_alloc _ _).symm]; rfl)) s2 ?_
  go_frame
  refine wpAnyH_done (by kernel_rfl) ?_ _
  obtain ⟨W8, hW8⟩ : ∃ W8, W8 = (W6.drew.alloc (.cells (Array.replicate c (.slice none 0 0)) 22)).alloc (.cells (C2 ++ #[.string name, .slice (some ⟨W6.drew.heap.size, 0, none⟩) c c]) 118) := ⟨_, rfl⟩
  have hds : W6.drew.heap.size = W6.heap.size := rfl
  rw [hds] at hW8 s2 ⊢
  rw [← hW8] at s2 ⊢
  have hx68 : Ext W6 W8 := hW8 ▸ ((Ext.refl W6).drew.alloc _).alloc _
  have HX8 := Lib.hid (HX6.out.trans hx68)
  have hp8 : W8.heap[W6.heap.size + 1]? = some (.cells (C2 ++ #[.string name, .slice (some ⟨W6.heap.size, 0, none⟩) c c]) 118 (0, 0)) := by
    rw [hW8, show W6.heap.size + 1 = (W6.drew.alloc (.cells (Array.replicate c (.slice none 0 0)) 22)).heap.size from (size_alloc _ _).symm]
    exact block_alloc_new _ _
  have hg8 : W8.heap[W6.heap.size]? = some (.cells (Array.replicate c (.slice none 0 0)) 22 (0, 0)) := by
    rw [hW8, block_alloc_old (by rw [size_alloc]; exact Nat.lt_succ_self _)]
    exact block_alloc_new W6.drew _
  have hz8 : W8.heap.size = W6.heap.size + 2 := by rw [hW8, size_alloc, size_alloc, hds]
  have hxs := HX5.out.size
  have hx4s := HX4.out.size
  have h45 := H5.out.1.size
  have HHs := Lib.hid (show HashesAt W8 (.slice ua un uc) r.hs from H5.out.2.1.kept (by omega) fun b o n c' e hb => by
    have := H5.out.2.2.1 b o n c' e
    have hw : w.heap.size < w4.heap.size := ltB HB4.out
    rw [hx68.block (by omega), HO6.out b (by omega)])
  have HN8 := Lib.hid (show W8.heap[w2.heap.size]? = some (.cells #[.int .i64 nk, .string ndt, .string nt, .int .i64 ntm] 57 (0, 0)) from by
    have h5 := (H5.out.1.block (ltB HN4.out)).trans HN4.out
    have hw : w.heap.size < w2.heap.size := by have := ltB HB1.out; have := HX1.out.size; have := HB2.out; have := HW2.out; omega
    rw [hx68.block (by have := ltB h5; omega), HO6.out _ (by omega), h5])
  have HStep := Lib.hid (show ∀ wr, Chg [W6.heap.size] W8 wr → ∀ k, k < c → ∃ gs, sa = some ⟨gs, 0, none⟩ ∧ wr.rangeAt gs (k * 5) (stepL N r.hs ndt.toList k) from fun wr x k hk => by
    rcases H4.out.1.2 with ⟨_, h0⟩ | ⟨gs, cap', cur, he, hgs, hh, _⟩
    · omega
    · cases he
      refine ⟨gs, rfl, fun j u hj => ?_⟩
      have hlt := ltB hh
      have hlo : w.heap.size < wc.heap.size := ltB HBc.out
      have hblk : wr.heap[gs]? = w4.heap[gs]? := by
        rw [x.block gs (by omega) (by simp; omega), hx68.block (by omega), HO6.out gs (by omega), H5.out.1.block hlt]
      have := H4.out.1.cells (g := gs) rfl (k * 5 + j) u (stepsL_get hk hj)
      rw [append_kw.add_off, Nat.zero_add] at this
      unfold World.cell? at this ⊢
      rw [hblk]; exact this)
  have HD8 := Lib.hid (show DrIn W8 (W6.heap.size + 1) W6.heap.size (C2 ++ #[.string name, .slice (some ⟨W6.heap.size, 0, none⟩) c c]) (Array.replicate c (.slice none 0 0)) (.slice ua un uc) ((W6.heap.size + 1) :: Bs) r N name (openTo N r.hs ndt.toList 0) from by
    have hc := HCc.out
    subst hc
    refine DrIn.new HG.out HC2.out hp8 hg8 HHs.out (fun b o n c' e => List.mem_cons_of_mem _ (HBs.out.2 b o n c' e)) (fun b hb => ?_) List.mem_cons_self
    rcases List.mem_cons.1 hb with rfl | hb
    · exact ⟨by omega, by omega⟩
    · have := HBs.out.1 b hb
      exact ⟨by omega, by omega⟩)
  have HJ8 := Lib.hid (show ∀ b ∈ (W6.heap.size + 1) :: Bs, w.heap.size ≤ b from fun b hb => by
    rcases List.mem_cons.1 hb with rfl | hb
    · omega
    · exact (HBs.out.1 b hb).1)
  have hgw2 : w2.heap.size < W6.heap.size := by have := ltB HN4.out; omega
  have hgw : w.heap.size < W6.heap.size := by have := HW2.out; omega
  obtain ⟨D8, hD8⟩ : ∃ D8, D8 = C2 ++ #[.string name, .slice (some ⟨W6.heap.size, 0, none⟩) c c] := ⟨_, rfl⟩
  rw [← hD8] at HD8
  have HB8 := Lib.hid s2
  clear hp8 hg8 s0 s1 s2 hW8 hD8 hds hxs hx4s h45 HO6 HQ6 hmk hx68 hW6s HS6
  generalize W6.heap.size = g at *
  go_wp2_with fail
  go_loopw [66] (fun iv wr => Hid (∃ k : Nat, k ≤ c ∧ iv = .int .i64 k ∧ Chg [g] W8 wr ∧ ∃ cs J, DrIn wr (g + 1) g D8 cs (.slice ua un uc) J r N name (openTo N r.hs ndt.toList k) ∧ ∀ b ∈ J, w.heap.size ≤ b)) (fun iv _ => c - (intOf iv).toNat)
  case atStart => exact ⟨0, Nat.zero_le _, rfl, Chg.refl _ _, _, _, HD8.out, HJ8.out⟩
  case round =>
    obtain ⟨k, hk, rfl, hx, cs, J, hd, hJ⟩ := hrel.out
    clear hrel
    have HX := Lib.hid hx
    have HDk := Lib.hid hd
    have HJk := Lib.hid hJ
    by_cases hlt : k < c
    · obtain ⟨gs, rfl, hrg⟩ := HStep.out wr hx k hlt
      have HSz := Lib.hid (show ∀ a b c d e : Value, (Tryz.prog.info? 128).map (·.size) = some (#[a, b, c, d, e] : Array Value).size from fun _ _ _ _ _ => by kernel_rfl)
      by_cases hr : rightB N r.hs k (placedL N ndt.toList k) = true
      · rw [show stepL N r.hs ndt.toList k = [.int .i64 k, .int .i64 1, .string ⟨#[]⟩, .int .i64 0, .int .i64 0] from by unfold stepL stepP; rw [if_pos hr]] at hrg
        have HRg := Lib.hid hrg
        have hbk := (hx.block w.heap.size (ltB HB8.out) (by simp only [List.mem_singleton]; omega)).trans HB8.out
        have HBk := Lib.hid hbk
        have HNk := Lib.hid ((hx.block w2.heap.size (ltB HN8.out) (by simp only [List.mem_singleton]; omega)).trans HN8.out)
        have k22 := (cellB (k := 22) hbk).trans HC2.out.c22
        rw [HG.out.bs] at k22
        obtain ⟨sz, hsz⟩ : ∃ sz, sz = sizeN N := ⟨_, rfl⟩
        have HSzN := Lib.hid hsz
        rw [← hsz] at k22
        have k22 : (wr.alloc (.cells #[.int .i64 k, .int .i64 1, .string ⟨#[]⟩, .int .i64 0, .int .i64 0] 128)).cell? ⟨w.heap.size, 22, none⟩ = some (.int .i64 sz) := (((Ext.refl wr).alloc _).cell (lt_of_cell k22)).trans k22
        obtain ⟨m, hm⟩ : ∃ m, m = k * sz := ⟨_, rfl⟩
        have HM := Lib.hid hm
        have hmN : m < N := by
          have := (count_spec N k).1 (by rw [← HCc.out]; exact hlt)
          rw [hm, hsz]; exact this
        have hNs := HG.out.small
        have q1 : IntKind.i64.wrap ((k : Int) * (sz : Int)) = (m : Int) := by
          rw [← Int.natCast_mul, ← hm]; exact IntWalk.i64_in _ (by omega)
        clear hrg hx hd hJ hbk hm hsz
        go_wp2_with (refine wpList_load_at rfl 128 (.tmp 69) rfl gs (k * 5) rfl #[.int .i64 k, .int .i64 1, .string ⟨#[]⟩, .int .i64 0, .int .i64 0] _ HRg.out Tryz.underlying128 rfl (HSz.out _ _ _ _ _) ?_; go_frame)
        obtain ⟨Wa, hWa⟩ : ∃ Wa, Wa = wr.alloc (.cells #[.int .i64 k, .int .i64 1, .string ⟨#[]⟩, .int .i64 0, .int .i64 0] 128) := ⟨_, rfl⟩
        have hxa : Ext wr Wa := hWa ▸ (Ext.refl wr).alloc _
        rw [← hWa]
        have HBa := Lib.hid ((hxa.block (ltB HBk.out)).trans HBk.out)
        have HNa := Lib.hid ((hxa.block (ltB HNk.out)).trans HNk.out)
        have HDa := Lib.hid (HDk.out.ext hxa)
        have HXa := Lib.hid (HX.out.trans_ext hxa)
        have hla : lenN N k ≤ 128 := lenN_le N k
        obtain ⟨hln1, hln2⟩ := placed_some hr (by rw [← HCc.out]; exact hlt)
        rw [← HSzN.out, ← HM.out] at hln1 hln2
        have HLn := fun w' => Lib.hid (show Calls Tryz.prog 77 #[.agg C2, .int .i64 k] w' (fun e w'' => e = .returned (.int .i64 (lenN N k : Nat)) ∧ Ext w' w'') from by
          rw [← HG.out.len (by rw [← HCc.out]; exact hlt)]
          obtain ⟨a, cap, hb, _⟩ := HHs.out
          exact clength_any r _ _ k w' HC2.out ⟨a, cap, hb⟩ (by rw [HG.out.size]; omega) (by rw [HG.out.size]; omega))
        obtain ⟨ln, hl⟩ : ∃ ln, ln = lenN N k := ⟨_, rfl⟩
        have HL := Lib.hid hl
        rw [← hl] at hla hln1 hln2 HLn
        have q2 : IntKind.i64.wrap ((m : Int) + (ln : Int)) = ((m + ln : Nat) : Int) := by
          rw [← Int.natCast_add]; exact IntWalk.i64_in _ (by omega)
        have hsz2 : ndt.toList.length = ndt.size := len_toList _
        clear hWa hxa k22 hl q1
        refine wp_region_held (S := fun w' => Chg [g] Wa w') (by kernel_rfl) ?_
        change wpAnyH _ _ _ _ _ _ _ _ (World.drew _)
        have sS : Chg [g] Wa Wa.drew := (Ext.refl Wa).drew.chg [g]
        refine wpAnyH_takeL (i := 0) (v := .pointer (some ⟨g + 1, 0, none⟩)) rfl (by kernel_rfl) (by kernel_rfl) (by kernel_rfl) (fun _ _ _ h => h) (yieldsIf_move rfl _ rfl rfl) sS ?_
        go_frame
        refine wpAnyH_takeL (i := 1) (v := .int .i64 k) rfl (by kernel_rfl) (by kernel_rfl) (by kernel_rfl) (fun _ _ _ h => h) (yieldsIf_move rfl _ rfl rfl) sS ?_
        go_frame
        refine wpAnyH_takeL (i := 2) (v := .pointer (some ⟨w2.heap.size, 1, none⟩)) rfl (by kernel_rfl) (by kernel_rfl) (by kernel_rfl) (fun _ _ _ h => h) (Or.inl ⟨rfl, fun w' _ => by go_simp⟩) sS ?_
        go_frame
        refine wpAnyH_takeL (i := 3) (v := .string ndt) rfl (by kernel_rfl) (by kernel_rfl) (by kernel_rfl) (fun _ _ _ h => h) (Or.inl ⟨rfl, fun w' hw' => by
          have hc : w'.cell? ⟨w2.heap.size, 1, none⟩ = some (.string ndt) := cellB (k := 1) ((hw'.block _ (ltB HNa.out) (by simp only [List.mem_singleton]; omega)).trans HNa.out)
          go_simp⟩) sS ?_
        go_frame
        refine wpAnyH_takeL (i := 4) (v := .int .i64 m) rfl (by kernel_rfl) (by kernel_rfl) (by kernel_rfl) (fun _ _ _ h => h) (yieldsIf_move rfl _ rfl rfl) sS ?_
        go_frame
        refine wpAnyH_takeL (i := 5) (v := .int .i64 m) rfl (by kernel_rfl) (by kernel_rfl) (by kernel_rfl) (fun _ _ _ h => h) (yieldsIf_move rfl _ rfl rfl) sS ?_
        go_frame
        refine wpAnyH_takeL (i := 6) (v := .agg C2) rfl (by kernel_rfl) (by kernel_rfl) (by kernel_rfl) (fun _ _ _ h => h) (yieldsIf_load_row rfl 31 (.tmp 6) rfl w.heap.size rfl 31 C2 (0, 0) _ (fun w' hw' => (hw'.block _ (ltB HBa.out) (by simp only [List.mem_singleton]; omega)).trans HBa.out) Tryz.underlying31 rfl HC2z.out) sS ?_
        go_frame
        refine wpAnyH_takeL (i := 7) (v := .int .i64 k) rfl (by kernel_rfl) (by kernel_rfl) (by kernel_rfl) (fun _ _ _ h => h) (yieldsIf_move rfl _ rfl rfl) sS ?_
        go_frame
        refine wpAnyH_call (i := 8) (F := 77) (args := #[.agg C2, .int .i64 k]) (by kernel_rfl) rfl rfl (by go_simp) ?_
        refine (HLn _).out.mono ?_
        rintro e wb ⟨rfl, xb⟩
        have sB : Chg [g] Wa wb := sS.trans_ext xb
        refine ⟨_, rfl, sB, ?_⟩
        go_frame
        refine wpAnyH_takeL (i := 9) (v := .int .i64 (m + ln : Nat)) rfl (by kernel_rfl) (by kernel_rfl) (by kernel_rfl) (fun _ _ _ h => h) (Or.inl ⟨rfl, fun w' _ => by go_simp⟩) sB ?_
        go_frame
        refine wpAnyH_takeL (i := 10) (v := .string (ndt.extract m (m + ln))) rfl (by kernel_rfl) (by kernel_rfl) (by kernel_rfl) (fun _ _ _ h => h) (Or.inl ⟨rfl, fun w' _ => by
          go_simp
          rw [if_pos ⟨by omega, by omega⟩, if_pos (by omega), show ((m : Int) + (ln : Int)).toNat = m + ln from by omega]⟩) sB ?_
        go_frame
        have hcl : (ndt.extract m (m + ln)).toList = placedL N ndt.toList k := by
          rw [(placed_some hr (by rw [← HCc.out]; exact hlt)).2, ← HSzN.out, ← HM.out, ← HL.out, toList_extract, show m + ln - m = ln from by omega]
        have hpl : (placedL N ndt.toList k).length = ln := by rw [right_len hr, HL.out]
        have hl1 := lenN_pos (N := N) (i := k) (by rw [← HCc.out]; exact hlt)
        rw [← HL.out] at hl1
        have hcz : (ndt.extract m (m + ln)).size = ln := by rw [← len_toList, hcl, hpl]
        obtain ⟨cap, wc2, hcv2, xc2, hnb, hpa⟩ := conv_part (ndt.extract m (m + ln)) wb (by omega) (by omega)
        rw [hcl] at hcv2 hpa
        have sC : Chg [g] Wa wc2 := sB.trans_ext xc2
        refine wpAnyH_one (i := 11) (by kernel_rfl) rfl rfl (run_convertOp _ _ _ rfl _ _ _ hcv2) sC ?_
        go_frame
        have xab : Ext Wa wb := (Ext.refl Wa).drew.trans xb
        have hgl : g < Wa.heap.size := ltB HDa.out.row
        have hgb := xab.size
        have hdc := (HDa.out.ext (xab.trans xc2)).more (b := wb.heap.size) (by omega) hnb
        have HF := fill_any wc2 (g + 1) g D8 cs (.slice ua un uc) (J ++ [wb.heap.size]) r N name (openTo N r.hs ndt.toList k) hdc k (by rw [← HCc.out]; exact hlt) (placedL N ndt.toList k) _ (hpa.more fun b hb => List.mem_append.2 (.inr hb))
        refine wpAnyH_call (i := 12) (F := 76) (args := #[.pointer (some ⟨g + 1, 0, none⟩), .int .i64 k, .slice (some ⟨wb.heap.size, 0, none⟩) (placedL N ndt.toList k).length cap]) (by kernel_rfl) rfl rfl (by go_simp) ?_
        refine HF.mono ?_
        rintro e wd ⟨rfl, hh⟩
        have HH := hh
        clear hh HF hdc hcv2 hpa
        have sD : Chg [g] Wa wd := sC.trans HH.out.1 fun _ h => .inl h
        refine ⟨_, rfl, sD, ?_⟩
        go_frame
        refine wpAnyH_done (by kernel_rfl) ?_ _
        have HXd := Lib.hid (HXa.out.trans sD fun _ h => .inl h)
        have HJd := Lib.hid (show ∀ b ∈ J ++ [wb.heap.size], w.heap.size ≤ b from fun b hb => by
          rcases List.mem_append.1 hb with hb | hb
          · exact HJk.out b hb
          · rw [List.mem_singleton.1 hb]; omega)
        have HOp := Lib.hid (show openTo N r.hs ndt.toList (k + 1) = fillP N r.hs k (placedL N ndt.toList k) (openTo N r.hs ndt.toList k) from by rw [openTo, if_pos hr])
        clear sS sB sC sD hr hcl hpl hl1 hcz xab hgl hgb q2 hsz2 hln1 hln2 hla hmN xb xc2 hnb
        go_wp2_with fail
        go_roundw
        case rel => exact ⟨k + 1, by omega, by go_num, HXd.out, by rw [HOp.out]; exact ⟨HH.out.2.choose, _, HH.out.2.choose_spec, HJd.out⟩⟩
        case measure => simp [intOf] <;> omega
      · obtain ⟨q, v5, hq, hrow⟩ : ∃ (q : Int) (v5 : Int), (q = 3 ∨ q = 4) ∧ stepL N r.hs ndt.toList k = [.int .i64 k, .int .i64 q, .string ⟨#[]⟩, .int .i64 0, .int .i64 v5] := by
          unfold stepL stepP
          rw [if_neg hr]
          split
          · exact ⟨3, _, .inl rfl, rfl⟩
          · exact ⟨4, _, .inr rfl, rfl⟩
        rw [hrow] at hrg
        have HRg := Lib.hid hrg
        have q1 : (q == 1) = false := by rw [beq_eq_false_iff_ne]; omega
        have q2 : (q == 2) = false := by rw [beq_eq_false_iff_ne]; omega
        have HOp := Lib.hid (show openTo N r.hs ndt.toList (k + 1) = openTo N r.hs ndt.toList k from by rw [openTo, if_neg hr])
        clear hrg hx hd hJ hr hrow hq
        go_wp2_with (refine wpList_load_at rfl 128 (.tmp 69) rfl gs (k * 5) rfl #[.int .i64 k, .int .i64 q, .string ⟨#[]⟩, .int .i64 0, .int .i64 v5] _ HRg.out Tryz.underlying128 rfl (HSz.out _ _ _ _ _) ?_; go_frame)
        go_roundw
        case rel => exact ⟨k + 1, by omega, by go_num, HX.out.trans_ext ((Ext.refl wr).alloc _), by rw [HOp.out]; exact ⟨_, _, HDk.out.ext ((Ext.refl wr).alloc _), HJk.out⟩⟩
        case measure => simp [intOf] <;> omega
    · obtain rfl : k = c := by omega
      have nlt : decide ((k : Int) < (k : Int)) = false := by simp
      clear hx hd hJ
      go_wp2_with fail
      go_ret2
      exact ⟨_, _, _, _, _, _, rfl, HX.out.ext HX8.out (by simp; omega), by rw [← HCc.out]; exact HDk.out, by omega, HJk.out⟩
end Go.Proofs.YtldppmjjgljinaaGreatDoor
