/- Contract of caravanref07's whole. Printed by gen_refw.py. -/
import Derived.Test.YtlabhbeacogfbaaDoorRefE
import Derived.Outline
namespace Go.Proofs.YtlabhbeacogfbaaDoor
open Go.RowKit

/-- A row of n bools, of which those from k on are laid. -/
def brA (n k : Nat) (f : Nat → Bool) : Array Value := blA n n fun i => decide (k ≤ i) && f i
theorem brA_get (n k : Nat) (f : Nat → Bool) (i : Nat) (hi : i < n) : (brA n k f)[i]? = some (.bool (decide (k ≤ i) && f i)) := blA_at n n _ i hi hi
theorem brA_at (n k : Nat) (f : Nat → Bool) (i : Nat) (hi : i < n) (hk : k ≤ i) : (brA n k f)[i]? = some (.bool (f i)) := by
  rw [brA_get n k f i hi, show decide (k ≤ i) = true from by simpa using hk]; rfl
theorem brA_made (n : Nat) (f : Nat → Bool) : madeCells #[.bool false] n = brA n n f := by
  rw [blA_made n f]
  refine blA_ext _ _ _ _ (blA_size _ _ _) fun i hi => ?_
  rw [blA_get _ _ _ _ hi]
  simp; omega
theorem brA_set (n k : Nat) (f : Nat → Bool) (hk : k < n) {b : Bool} (hb : f k = b) : (brA n (k + 1) f).setIfInBounds k (.bool b) = brA n k f := by
  subst hb
  refine blA_ext _ _ _ _ (by rw [Array.size_setIfInBounds]; exact blA_size _ _ _) fun i hi => ?_
  rw [Array.getElem?_setIfInBounds]
  by_cases e : k = i
  · subst e
    rw [if_pos rfl, if_pos (by rw [show (brA n (k + 1) f).size = n from blA_size _ _ _]; exact hk)]; simp [hk]
  · rw [if_neg e, brA_get n (k + 1) f i hi]
    rw [show decide (k + 1 ≤ i) = decide (k ≤ i) from by rw [decide_eq_decide]; omega]
    simp [hi]

/-- The table within 'whole': rows of which the one at q, if it is one, is laid. -/
structure WhInv (w : World) (T n m q : Nat) (f : Nat → Nat → Bool) (wr : World) : Prop where
  ext : Ext w wr
  tab : ∃ A, wr.heap[T]? = some (.cells A 45 (0, 0)) ∧ A.size = n ∧ (q < n → ∃ r, A[q]? = some (.slice (some ⟨r, 0, none⟩) m m) ∧ T < r ∧ wr.heap[r]? = some (.cells (blA m m (f q)) 4 (0, 0)))
  ge : w.heap.size ≤ T

/-- The row within 'whole'. -/
structure WrInv (w : World) (T R n m q k : Nat) (f : Nat → Nat → Bool) (wr : World) : Prop where
  ext : Ext w wr
  ge : w.heap.size ≤ T
  lt : T < R
  tab : ∃ A, wr.heap[T]? = some (.cells A 45 (0, 0)) ∧ A.size = n ∧ A[q]? = some (.slice (some ⟨R, 0, none⟩) m m) ∧ (q + 1 < n → ∃ r, A[q + 1]? = some (.slice (some ⟨r, 0, none⟩) m m) ∧ T < r ∧ r ≠ R ∧ wr.heap[r]? = some (.cells (blA m m (f (q + 1))) 4 (0, 0)))
  row : wr.heap[R]? = some (.cells (brA m k (f q)) 4 (0, 0))

theorem WhInv.row {w wr : World} {T n m q : Nat} {f : Nat → Nat → Bool} (I : WhInv w T n m (q + 1) f wr) (hq : q < n) :
    WrInv w T wr.heap.size n m q m f ((wr.setCell ⟨T, q, none⟩ (.slice (some ⟨wr.heap.size, 0, none⟩) m m)).alloc (.cells (madeCells #[.bool false] m) 4)) := by
  obtain ⟨A, h1, h2, h3⟩ := I.tab
  have hT := lt_of_block h1
  have hz : (wr.setCell ⟨T, q, none⟩ (.slice (some ⟨wr.heap.size, 0, none⟩) m m)).heap.size = wr.heap.size := by simp
  refine ⟨(I.ext.setCell I.ge _).alloc _, I.ge, hT, ⟨A.setIfInBounds q (.slice (some ⟨wr.heap.size, 0, none⟩) m m), ?_, by rw [Array.size_setIfInBounds, h2], ?_, fun hn => ?_⟩, ?_⟩
  · rw [((Ext.refl _).alloc _).block (by rw [hz]; exact hT)]; exact heap_setCell_same _ _ _ _ _ _ h1
  · rw [Array.getElem?_setIfInBounds, if_pos rfl, if_pos (by omega)]
  · obtain ⟨r, g1, g2, g3⟩ := h3 hn
    have hr := lt_of_block g3
    refine ⟨r, ?_, g2, by omega, ?_⟩
    · rw [Array.getElem?_setIfInBounds, if_neg (by omega)]; exact g1
    · rw [((Ext.refl _).alloc _).block (by rw [hz]; exact hr), heap_setCell_other _ _ _ _ (by show r ≠ T; omega)]; exact g3
  · have := heap_alloc_new (wr.setCell ⟨T, q, none⟩ (.slice (some ⟨wr.heap.size, 0, none⟩) m m)) (.cells (madeCells #[.bool false] m) 4)
    rw [hz] at this
    rw [this, brA_made m (f q)]
theorem WrInv.on {w wr w1 : World} {T R n m q k : Nat} {f : Nat → Nat → Bool} (I : WrInv w T R n m q k f wr) (x : Ext wr w1) : WrInv w T R n m q k f w1 := by
  obtain ⟨A, h1, h2, h3, h4⟩ := I.tab
  refine ⟨I.ext.trans x, I.ge, I.lt, ⟨A, (x.block (lt_of_block h1)).trans h1, h2, h3, fun hn => ?_⟩, (x.block (lt_of_block I.row)).trans I.row⟩
  obtain ⟨r, g1, g2, g3, g4⟩ := h4 hn
  exact ⟨r, g1, g2, g3, (x.block (lt_of_block g4)).trans g4⟩
theorem WrInv.step {w wr : World} {T R n m q k : Nat} {f : Nat → Nat → Bool} (I : WrInv w T R n m q (k + 1) f wr) (hk : k < m) {b : Bool} (hb : f q k = b) :
    WrInv w T R n m q k f (wr.setCell ⟨R, k, none⟩ (.bool b)) := by
  obtain ⟨A, h1, h2, h3, h4⟩ := I.tab
  have hl := I.lt
  have hg := I.ge
  refine ⟨I.ext.setCell (by show w.heap.size ≤ R; omega) _, hg, hl, ⟨A, by rw [heap_setCell_other _ _ _ _ (by show T ≠ R; omega)]; exact h1, h2, h3, fun hn => ?_⟩, ?_⟩
  · obtain ⟨r, g1, g2, g3, g4⟩ := h4 hn
    exact ⟨r, g1, g2, g3, by rw [heap_setCell_other _ _ _ _ g3]; exact g4⟩
  · rw [← brA_set m k (f q) hk hb]
    exact heap_setCell_same _ _ _ _ _ _ I.row
theorem WrInv.done {w wr : World} {T R n m q : Nat} {f : Nat → Nat → Bool} (I : WrInv w T R n m q 0 f wr) : WhInv w T n m q f wr := by
  obtain ⟨A, h1, h2, h3, h4⟩ := I.tab
  refine ⟨I.ext, ⟨A, h1, h2, fun _ => ⟨R, h3, I.lt, ?_⟩⟩, I.ge⟩
  rw [I.row]
  unfold brA
  congr 3

/-- What the table holds. -/
def tabF (fold : Bool) (es : List GE) (s : List UInt8) (i k : Nat) : Bool := wholeL fold (es.drop i) (s.drop k)
theorem tabF_last (fold : Bool) (es : List GE) (s : ByteArray) (i k : Nat) (hi : es.length ≤ i) (hk : k ≤ s.size) : tabF fold es s.toList i k = (k == s.size) := by
  unfold tabF
  rw [List.drop_of_length_le hi, wholeL_nil, Bool.eq_iff_iff, List.isEmpty_iff_length_eq_zero, List.length_drop, len_toList, beq_iff_eq]
  omega
theorem tabF_end (fold : Bool) (es : List GE) (s : ByteArray) (i : Nat) (e : GE) (he : es[i]? = some e) : tabF fold es s.toList i s.size = (e.many && tabF fold es s.toList (i + 1) s.size) := by
  unfold tabF
  obtain ⟨hi, e1⟩ := List.getElem?_eq_some_iff.1 he
  rw [List.drop_of_length_le (show s.toList.length ≤ s.size by rw [len_toList]; exact Nat.le_refl _), List.drop_eq_getElem_cons hi, e1, wholeL_cons_nil]
theorem tabF_many (fold : Bool) (es : List GE) (s : ByteArray) (i k : Nat) (e : GE) (he : es[i]? = some e) (hk : k < s.size) (hm : e.many = true) :
    tabF fold es s.toList i k = (tabF fold es s.toList (i + 1) k || e.holds fold s[k] && tabF fold es s.toList i (k + 1)) := by
  unfold tabF
  obtain ⟨hi, e1⟩ := List.getElem?_eq_some_iff.1 he
  rw [drop_cons s k hk, List.drop_eq_getElem_cons hi, e1, wholeL_many fold e _ _ _ hm]
theorem tabF_one (fold : Bool) (es : List GE) (s : ByteArray) (i k : Nat) (e : GE) (he : es[i]? = some e) (hk : k < s.size) (hm : e.many = false) :
    tabF fold es s.toList i k = (e.holds fold s[k] && tabF fold es s.toList (i + 1) (k + 1)) := by
  unfold tabF
  obtain ⟨hi, e1⟩ := List.getElem?_eq_some_iff.1 he
  rw [drop_cons s k hk, List.drop_eq_getElem_cons hi, e1, wholeL_one fold e _ _ _ hm]


/-- The kind of an element, as a number. -/
theorem RElt.kind {w : World} {Far : Nat → Prop} {e : GE} {cs : Array Value} (h : RElt w Far e cs) : ∃ (K : Int) (B : Int) (N : Bool) (a : Option Addr) (n c : Nat), cs = #[.int .i64 K, .int .u8 B, .bool N, .slice a n c] ∧
    ((e.many = true ∧ K = 1) ∨ (e.many = true ∧ K = 2) ∨ (e.many = false ∧ (K == 1) = false ∧ (K == 2) = false)) := by
  cases e with
  | all => obtain rfl := h; exact ⟨_, _, _, _, _, _, rfl, .inl ⟨rfl, rfl⟩⟩
  | some => obtain rfl := h; exact ⟨_, _, _, _, _, _, rfl, .inr (.inl ⟨rfl, rfl⟩)⟩
  | any => obtain rfl := h; exact ⟨_, _, _, _, _, _, rfl, .inr (.inr ⟨rfl, rfl, rfl⟩)⟩
  | byt c => obtain rfl := h; exact ⟨_, _, _, _, _, _, rfl, .inr (.inr ⟨rfl, rfl, rfl⟩)⟩
  | set neg rs =>
    obtain ⟨v, rfl, hv⟩ := h
    obtain ⟨a, c, rfl, _⟩ := hv.at_
    exact ⟨_, _, _, _, _, _, rfl, .inr (.inr ⟨rfl, rfl, rfl⟩)⟩

theorem WhInv.start (w : World) (n m : Nat) (f : Nat → Nat → Bool) : WhInv w w.heap.size n m n f (w.alloc (.cells (madeCells #[.slice none 0 0] n) 45)) :=
  ⟨(Ext.refl w).alloc _, ⟨_, heap_alloc_new _ _, size_madeCells _ _, fun h => absurd h (Nat.lt_irrefl _)⟩, Nat.le_refl _⟩

set_option maxHeartbeats 8000000 in
set_option maxRecDepth 100000 in
theorem rwhole_any (m : Marks) (r : Bool) (v : Value) (l : List (GE × Array Value)) (s : ByteArray) (Far : Nat → Prop) (w : World) (hs : s.size ≤ 1024) (hl : l.length ≤ 1024) (h : REltsAt w Far v l) :
    Calls Tryd.prog 60 #[patV m r v, .string s] w fun e w' => e = .returned (.bool (wholeL m.fold (l.map (·.1)) s.toList)) ∧ Ext w w' := by
  obtain ⟨va, cap, rfl, h1, h2, h3⟩ := h.row
  unfold maxLen at h2
  unfold patV
  obtain ⟨es, hes⟩ : ∃ es, es = l.map (·.1) := ⟨_, rfl⟩
  rw [← hes]
  have hesl : es.length = l.length := by rw [hes]; simp
  have H3 := Lib.hid h3
  have HEL := Lib.hid h.elts
  have HES := Lib.hid hes
  have HESL := Lib.hid hesl
  clear h h3 hes hesl
  obtain ⟨i0, hi, hz0, hz1, hz2⟩ := info_parts (show (Tryd.prog.info? 4).map (fun i => (i.zero, i.size, i.bytes)) = some (some (.bool false), 1, 1) from by kernel_rfl)
  have hmk := fun w => run_make (P := Tryd.prog) w 45 4 i0 (.bool false) Tryd.underlying45 hi hz0 .i64 .i64 (s.size + 1) (s.size + 1) (by omega) (by omega) (by rw [hz2]; omega) (by omega)
  obtain ⟨i1, hi1, hy0, hy1, hy2⟩ := info_parts (show (Tryd.prog.info? 45).map (fun i => (i.zero, i.size, i.bytes)) = some (some (.slice none 0 0), 1, 24) from by kernel_rfl)
  have hmk2 := fun w => run_make (P := Tryd.prog) w 115 45 i1 (.slice none 0 0) Tryd.underlying115 hi1 hy0 .i64 .i64 (l.length + 1) (l.length + 1) (by omega) (by omega) (by rw [hy2]; omega) (by omega)
  clear hi hz0 hz2 hi1 hy0 hy2
  obtain ⟨W1, hW1⟩ : ∃ W1, W1 = w.alloc (.cells #[.bool m.neg, .bool m.fold, .bool m.del, .bool r, .slice va l.length cap] 66) := ⟨_, rfl⟩
  have hx1 : Ext w W1 := hW1 ▸ (Ext.refl w).alloc _
  have hwz : W1.heap.size = w.heap.size + 1 := by rw [hW1]; simp
  have hP : W1.heap[w.heap.size]? = some (.cells #[.bool m.neg, .bool m.fold, .bool m.del, .bool r, .slice va l.length cap] 66 (0, 0)) := by rw [hW1]; exact heap_alloc_new _ _
  have HP := Lib.hid hP
  have HX := Lib.hid hx1
  have HW1 := Lib.hid hW1
  clear hP hx1 hW1
  go_enter Tryd.func60, Tryd.ntmps60
  go_wp2_with fail
  rw [← HW1.out]
  have HST := Lib.hid (WhInv.start W1 (l.length + 1) (s.size + 1) (tabF m.fold es s.toList))
  rw [← hwz]
  generalize W1.heap.size = T at *
  have HWZ := Lib.hid hwz
  clear hwz
  go_loopw [8] (fun iv wr => Hid (∃ (q : Nat) (z : Int), q ≤ l.length + 1 ∧ z = (q : Int) - 1 ∧ iv = .int .i64 z ∧ WhInv W1 T (l.length + 1) (s.size + 1) q (tabF m.fold es s.toList) wr)) (fun iv _ => (intOf iv + 1).toNat)
  case atStart => exact ⟨l.length + 1, (l.length : Int), by omega, by omega, rfl, HST.out⟩
  case round =>
    obtain ⟨q, z, hq, hz, rfl, I⟩ := hrel.out
    clear hrel HST
    rcases Nat.eq_zero_or_pos q with h0 | h0
    · subst h0
      obtain rfl : z = -1 := by omega
      obtain ⟨A, g1, g2, g3⟩ := I.tab
      obtain ⟨r0, g4, g5, g6⟩ := g3 (by omega)
      have T0 : wr.cell? ⟨T, 0, none⟩ = some (.slice (some ⟨r0, 0, none⟩) (s.size + 1) (s.size + 1)) := (cell_of_block g1).trans g4
      have Q0 : wr.cell? ⟨r0, 0, none⟩ = some (.bool (tabF m.fold es s.toList 0 0)) := (cell_of_block g6).trans (blA_at _ _ _ _ (by omega) (by omega))
      have HF := Lib.hid (show tabF m.fold es s.toList 0 0 = wholeL m.fold es s.toList from rfl)
      have HI := Lib.hid I.ext
      clear I g1 g2 g3 g4 g5 g6 hz
      generalize tabF m.fold es s.toList 0 0 = bb at *
      go_wp2_with fail
      go_ret
      exact ⟨ret_bool HF.out, HX.out.trans HI.out⟩
    · obtain ⟨i, rfl⟩ : ∃ i, q = i + 1 := ⟨q - 1, by omega⟩
      obtain rfl : z = (i : Int) := by omega
      clear hz h0
      have hcT : ∃ u, wr.cell? ⟨T, i, none⟩ = some u := by
        obtain ⟨A, g1, g2, g3⟩ := I.tab
        exact ⟨A[i]'(by omega), (cell_of_block g1).trans (Array.getElem?_eq_getElem (by omega))⟩
      obtain ⟨u0, hcT⟩ := hcT
      have hfT : wr.frozen? ⟨T, i, none⟩ = false := by
        obtain ⟨A, g1, g2, g3⟩ := I.tab
        exact frozen_of_block g1
      have hTl : T < wr.heap.size := by
        obtain ⟨A, g1, g2, g3⟩ := I.tab
        exact lt_of_block g1
      have HR := Lib.hid (I.row (by omega : i < l.length + 1))
      clear I
      go_wp2_with fail
      obtain ⟨wo, hwo⟩ : ∃ wo : World, wo = (wr.setCell ⟨T, i, none⟩ (.slice (some ⟨wr.heap.size, 0, none⟩) (s.size + 1) (s.size + 1))).alloc (.cells (madeCells #[.bool false] (s.size + 1)) 4) := ⟨_, rfl⟩
      rw [← hwo] at HR ⊢
      clear hwo
      generalize wr.heap.size = R at *
      go_loopw [9] (fun kv wr => Hid (∃ (q : Nat) (z : Int), q ≤ s.size + 1 ∧ z = (q : Int) - 1 ∧ kv = .int .i64 z ∧ WrInv W1 T R (l.length + 1) (s.size + 1) i q (tabF m.fold es s.toList) wr)) (fun kv _ => (intOf kv + 1).toNat)
      case atStart => exact ⟨s.size + 1, (s.size : Int), by omega, by omega, rfl, HR.out⟩
      case round =>
        obtain ⟨q2, z2, hq2, hz2, rfl, J⟩ := hrel.out
        clear hrel HR
        rcases Nat.eq_zero_or_pos q2 with h0 | h0
        · subst h0
          obtain rfl : z2 = -1 := by omega
          have HJ := Lib.hid J.done
          clear J hz2
          go_wp2_with fail
          go_roundw
          case rel => exact ⟨i, (i : Int) - 1, by omega, rfl, by go_num, HJ.out⟩
          case measure => simp [intOf] <;> omega
        · obtain ⟨k, rfl⟩ : ∃ k, q2 = k + 1 := ⟨q2 - 1, by omega⟩
          obtain rfl : z2 = (k : Int) := by omega
          clear hz2 h0
          have HJ0 := Lib.hid J
          clear J
          by_cases hin : i = l.length
          · have e0 : ((i : Int) == (l.length : Int)) = true := by rw [hin]; simp
            have hTb : tabF m.fold es s.toList i k = (k == s.size) := tabF_last m.fold es s i k (by rw [HESL.out]; omega) (by omega)
            obtain ⟨A, g1, g2, g3, g4⟩ := HJ0.out.tab
            have T0 : wr.cell? ⟨T, i, none⟩ = some (.slice (some ⟨R, 0, none⟩) (s.size + 1) (s.size + 1)) := (cell_of_block g1).trans g3
            have R0 : wr.cell? ⟨R, k, none⟩ = some (.bool false) := (cell_of_block HJ0.out.row).trans (by rw [brA_get _ _ _ _ (by omega), show decide (k + 1 ≤ k) = false from by rw [decide_eq_false_iff_not]; omega]; rfl)
            have RF : wr.frozen? ⟨R, k, none⟩ = false := frozen_of_block HJ0.out.row
            clear g1 g2 g3 g4 hin
            by_cases hks : k = s.size
            · have e1 : ((k : Int) == (s.size : Int)) = true := by rw [hks]; simp
              have HB := Lib.hid (show tabF m.fold es s.toList i k = true from by rw [hTb, hks]; simp)
              clear hTb hks
              go_wp2_with fail
              go_roundw
              case rel => exact ⟨k, (k : Int) - 1, by omega, rfl, by go_num, HJ0.out.step (by omega) HB.out⟩
              case measure => simp [intOf] <;> omega
            · have e1 : ((k : Int) == (s.size : Int)) = false := beq_eq_false_iff_ne.2 (by omega)
              have HB := Lib.hid (show tabF m.fold es s.toList i k = false from by rw [hTb]; simpa using hks)
              clear hTb hks
              go_wp2_with fail
              go_roundw
              case rel => exact ⟨k, (k : Int) - 1, by omega, rfl, by go_num, HJ0.out.step (by omega) HB.out⟩
              case measure => simp [intOf] <;> omega
          · have hil : i < l.length := by omega
            have e0 : ((i : Int) == (l.length : Int)) = false := beq_eq_false_iff_ne.2 (by omega)
            obtain ⟨x, hx⟩ : ∃ x, l[i]? = some x := ⟨_, List.getElem?_eq_getElem hil⟩
            have hxe : es[i]? = some x.1 := by rw [HES.out, List.getElem?_map, hx]; rfl
            have HX1 := Lib.hid hxe
            obtain ⟨hrel0, _⟩ := HEL.out x (List.mem_of_getElem? hx)
            obtain ⟨K, B, N, ra, rn, rc, hcs, hkind⟩ := hrel0.kind
            obtain ⟨g0, rfl, _, hg⟩ := H3.out i x hx
            have hww : Ext w wr := HX.out.trans HJ0.out.ext
            have y0 : wr.cell? ⟨g0, i * 4, none⟩ = some (.int .i64 K) := by rw [Nat.mul_comm]; have h0 := hg 0 (.int .i64 K) (by rw [hcs]; rfl); exact (hww.cell (lt_of_cell h0)).trans h0
            have y1 : wr.cell? ⟨g0, i * 4 + 1, none⟩ = some (.int .u8 B) := by rw [Nat.mul_comm]; have h0 := hg 1 (.int .u8 B) (by rw [hcs]; rfl); exact (hww.cell (lt_of_cell h0)).trans h0
            have y2 : wr.cell? ⟨g0, i * 4 + 2, none⟩ = some (.bool N) := by rw [Nat.mul_comm]; have h0 := hg 2 (.bool N) (by rw [hcs]; rfl); exact (hww.cell (lt_of_cell h0)).trans h0
            have y3 : wr.cell? ⟨g0, i * 4 + 3, none⟩ = some (.slice ra rn rc) := by rw [Nat.mul_comm]; have h0 := hg 3 (.slice ra rn rc) (by rw [hcs]; rfl); exact (hww.cell (lt_of_cell h0)).trans h0
            obtain ⟨⟨z0, z1, z2, z3, z4⟩, _⟩ := quint ((HJ0.out.ext.block (lt_of_block HP.out)).trans HP.out)
            obtain ⟨X, hX⟩ : ∃ X, X = wr.alloc (.cells #[.int .i64 K, .int .u8 B, .bool N, .slice ra rn rc] 96) := ⟨_, rfl⟩
            have hXE : Ext wr X := hX ▸ (Ext.refl wr).alloc _
            have hXb : X.heap[wr.heap.size]? = some (.cells #[.int .i64 K, .int .u8 B, .bool N, .slice ra rn rc] 96 (0, 0)) := by rw [hX]; exact heap_alloc_new _ _
            have X0 := After.cell (show X.cell? ⟨wr.heap.size, 0, none⟩ = some (.int .i64 K) from cell_of_block hXb)
            have X1 := After.cell (show X.cell? ⟨wr.heap.size, 1, none⟩ = some (.int .u8 B) from cell_of_block hXb)
            have X2 := After.cell (show X.cell? ⟨wr.heap.size, 2, none⟩ = some (.bool N) from cell_of_block hXb)
            have X3 := After.cell (show X.cell? ⟨wr.heap.size, 3, none⟩ = some (.slice ra rn rc) from cell_of_block hXb)
            have P0 := After.cell ((hXE.cell (lt_of_cell z0)).trans z0)
            have P1 := After.cell ((hXE.cell (lt_of_cell z1)).trans z1)
            have P2 := After.cell ((hXE.cell (lt_of_cell z2)).trans z2)
            have P3 := After.cell ((hXE.cell (lt_of_cell z3)).trans z3)
            have P4 := After.cell ((hXE.cell (lt_of_cell z4)).trans z4)
            have HH0 := fun (c : UInt8) (y : After X) => Lib.hid (rholds_any m r (some ⟨g0, 0, none⟩) l.length cap x.1 x.2 c Far y.v (hrel0.keeps (((hww.trans hXE).trans y.x).keeps _)))
            rw [hcs] at HH0
            unfold patV at HH0
            have HXE := Lib.hid hXE
            obtain ⟨i1, hi1⟩ : ∃ i1, i1 = i + 1 := ⟨_, rfl⟩
            obtain ⟨k1, hk1⟩ : ∃ k1, k1 = k + 1 := ⟨_, rfl⟩
            have wi : IntKind.i64.wrap ((i : Int) + 1) = (i1 : Int) := (IntWalk.i64_in _ (by omega)).trans (by omega)
            have wk : IntKind.i64.wrap ((k : Int) + 1) = (k1 : Int) := (IntWalk.i64_in _ (by omega)).trans (by omega)
            have bi : i1 < l.length + 1 := by omega
            have bk : k < s.size → k1 < s.size + 1 := fun _ => by omega
            have Hi1 := Lib.hid hi1
            have Hk1 := Lib.hid hk1
            clear hi1 hk1 hXE hXb z0 z1 z2 z3 hg hww hrel0 hcs hx hxe
            by_cases hks : k < s.size
            · have bk1 : k1 < s.size + 1 := bk hks
              have d0 : decide ((k : Int) < (s.size : Int)) = true := by rw [decide_eq_true_eq]; omega
              have d1 : decide (k < s.size) = true := by rw [decide_eq_true_eq]; omega
              have HH := HH0 s[k]
              clear HH0 bk
              cases hhb : x.1.holds m.fold s[k] with
              | true =>
                rw [hhb] at HH
                go_wp2_with fail
                rw [← hX]
                clear hX
                refine wp_region_after (by kernel_rfl) (by kernel_rfl) ?_
                repeat (go_big_quiet_step (exact After.of (HH _).out))
                refine wpQuiet_nil ?_
                rintro _ ⟨y, rfl⟩
                have HJ := Lib.hid (HJ0.out.on (HXE.out.trans y.x))
                rcases hkind with ⟨hm, rfl⟩ | ⟨hm, rfl⟩ | ⟨hm, hK1, hK2⟩
                · have JJ := HJ.out
                  obtain ⟨A, g1, g2, g3, g4⟩ := JJ.tab
                  obtain ⟨r0, g5, g6, g7, g8⟩ := g4 (by omega)
                  have T0 := After.cell (show y.v.cell? ⟨T, i, none⟩ = some (.slice (some ⟨R, 0, none⟩) (s.size + 1) (s.size + 1)) from (cell_of_block g1).trans g3)
                  have T1 := After.cell (show y.v.cell? ⟨T, i1, none⟩ = some (.slice (some ⟨r0, 0, none⟩) (s.size + 1) (s.size + 1)) from by rw [Hi1.out]; exact (cell_of_block g1).trans g5)
                  have R0 := After.cell (show y.v.cell? ⟨R, k, none⟩ = some (.bool false) from (cell_of_block JJ.row).trans (by rw [brA_get _ _ _ _ (by omega), show decide (k + 1 ≤ k) = false from by rw [decide_eq_false_iff_not]; omega]; rfl))
                  have RF := After.frozen (lt_of_block JJ.row) (show y.v.frozen? ⟨R, k, none⟩ = false from frozen_of_block JJ.row)
                  have Q0 := After.cell (show y.v.cell? ⟨r0, k, none⟩ = some (.bool (tabF m.fold es s.toList i1 k)) from by rw [Hi1.out]; exact (cell_of_block g8).trans (blA_at _ _ _ _ (by omega) (by omega)))
                  have R1 := After.cell (show y.v.cell? ⟨R, k1, none⟩ = some (.bool (tabF m.fold es s.toList i k1)) from by rw [Hk1.out]; exact (cell_of_block JJ.row).trans (brA_at _ _ _ _ (by omega) (by omega)))
                  have Q1 := After.cell (show y.v.cell? ⟨r0, k1, none⟩ = some (.bool (tabF m.fold es s.toList i1 k1)) from by rw [Hk1.out, Hi1.out]; exact (cell_of_block g8).trans (blA_at _ _ _ _ (by omega) (by omega)))
                  have HBX := tabF_many m.fold es s i k x.1 HX1.out hks hm
                  rw [hhb, ← Hi1.out, ← Hk1.out] at HBX
                  clear hm hhb
                  cases hb1 : tabF m.fold es s.toList i1 k with
                  | true =>
                    rw [hb1] at Q0 HBX
                    have HB := Lib.hid (show tabF m.fold es s.toList i k = true from HBX)
                    clear hb1 HBX
                    clear JJ g1 g2 g3 g4 g5 g6 g7 g8
                    go_wp2_with fail
                    refine wp_region_after_tail 27 (by kernel_rfl) (by kernel_rfl) ?_
                    simp only [List.take_succ_cons, List.take_zero, List.drop_succ_cons, List.drop_zero]
                    repeat (go_big_quiet_step (fail))
                    refine wpQuiet_nil ?_
                    rintro _ ⟨z, rfl⟩
                    go_wp2_with fail
                    go_roundw
                    case rel => exact ⟨k, (k : Int) - 1, by omega, rfl, by go_num, (HJ.out.on z.x).step (by omega) HB.out⟩
                    case measure => simp [intOf] <;> omega
                  | false =>
                    rw [hb1] at Q0 HBX
                    rw [Bool.false_or, Bool.true_and] at HBX
                    have HB := Lib.hid HBX
                    clear hb1 HBX
                    clear JJ g1 g2 g3 g4 g5 g6 g7 g8
                    generalize tabF m.fold es s.toList i k1 = b2 at *
                    go_wp2_with fail
                    refine wp_region_after_tail 27 (by kernel_rfl) (by kernel_rfl) ?_
                    simp only [List.take_succ_cons, List.take_zero, List.drop_succ_cons, List.drop_zero]
                    repeat (go_big_quiet_step (fail))
                    refine wpQuiet_nil ?_
                    rintro _ ⟨z, rfl⟩
                    go_wp2_with fail
                    go_roundw
                    case rel => exact ⟨k, (k : Int) - 1, by omega, rfl, by go_num, (HJ.out.on z.x).step (by omega) HB.out⟩
                    case measure => simp [intOf] <;> omega
                · have JJ := HJ.out
                  obtain ⟨A, g1, g2, g3, g4⟩ := JJ.tab
                  obtain ⟨r0, g5, g6, g7, g8⟩ := g4 (by omega)
                  have T0 := After.cell (show y.v.cell? ⟨T, i, none⟩ = some (.slice (some ⟨R, 0, none⟩) (s.size + 1) (s.size + 1)) from (cell_of_block g1).trans g3)
                  have T1 := After.cell (show y.v.cell? ⟨T, i1, none⟩ = some (.slice (some ⟨r0, 0, none⟩) (s.size + 1) (s.size + 1)) from by rw [Hi1.out]; exact (cell_of_block g1).trans g5)
                  have R0 := After.cell (show y.v.cell? ⟨R, k, none⟩ = some (.bool false) from (cell_of_block JJ.row).trans (by rw [brA_get _ _ _ _ (by omega), show decide (k + 1 ≤ k) = false from by rw [decide_eq_false_iff_not]; omega]; rfl))
                  have RF := After.frozen (lt_of_block JJ.row) (show y.v.frozen? ⟨R, k, none⟩ = false from frozen_of_block JJ.row)
                  have Q0 := After.cell (show y.v.cell? ⟨r0, k, none⟩ = some (.bool (tabF m.fold es s.toList i1 k)) from by rw [Hi1.out]; exact (cell_of_block g8).trans (blA_at _ _ _ _ (by omega) (by omega)))
                  have R1 := After.cell (show y.v.cell? ⟨R, k1, none⟩ = some (.bool (tabF m.fold es s.toList i k1)) from by rw [Hk1.out]; exact (cell_of_block JJ.row).trans (brA_at _ _ _ _ (by omega) (by omega)))
                  have Q1 := After.cell (show y.v.cell? ⟨r0, k1, none⟩ = some (.bool (tabF m.fold es s.toList i1 k1)) from by rw [Hk1.out, Hi1.out]; exact (cell_of_block g8).trans (blA_at _ _ _ _ (by omega) (by omega)))
                  have HBX := tabF_many m.fold es s i k x.1 HX1.out hks hm
                  rw [hhb, ← Hi1.out, ← Hk1.out] at HBX
                  clear hm hhb
                  cases hb1 : tabF m.fold es s.toList i1 k with
                  | true =>
                    rw [hb1] at Q0 HBX
                    have HB := Lib.hid (show tabF m.fold es s.toList i k = true from HBX)
                    clear hb1 HBX
                    clear JJ g1 g2 g3 g4 g5 g6 g7 g8
                    go_wp2_with fail
                    refine wp_region_after_tail 27 (by kernel_rfl) (by kernel_rfl) ?_
                    simp only [List.take_succ_cons, List.take_zero, List.drop_succ_cons, List.drop_zero]
                    repeat (go_big_quiet_step (fail))
                    refine wpQuiet_nil ?_
                    rintro _ ⟨z, rfl⟩
                    go_wp2_with fail
                    go_roundw
                    case rel => exact ⟨k, (k : Int) - 1, by omega, rfl, by go_num, (HJ.out.on z.x).step (by omega) HB.out⟩
                    case measure => simp [intOf] <;> omega
                  | false =>
                    rw [hb1] at Q0 HBX
                    rw [Bool.false_or, Bool.true_and] at HBX
                    have HB := Lib.hid HBX
                    clear hb1 HBX
                    clear JJ g1 g2 g3 g4 g5 g6 g7 g8
                    generalize tabF m.fold es s.toList i k1 = b2 at *
                    go_wp2_with fail
                    refine wp_region_after_tail 27 (by kernel_rfl) (by kernel_rfl) ?_
                    simp only [List.take_succ_cons, List.take_zero, List.drop_succ_cons, List.drop_zero]
                    repeat (go_big_quiet_step (fail))
                    refine wpQuiet_nil ?_
                    rintro _ ⟨z, rfl⟩
                    go_wp2_with fail
                    go_roundw
                    case rel => exact ⟨k, (k : Int) - 1, by omega, rfl, by go_num, (HJ.out.on z.x).step (by omega) HB.out⟩
                    case measure => simp [intOf] <;> omega
                · have JJ := HJ.out
                  obtain ⟨A, g1, g2, g3, g4⟩ := JJ.tab
                  obtain ⟨r0, g5, g6, g7, g8⟩ := g4 (by omega)
                  have T0 := After.cell (show y.v.cell? ⟨T, i, none⟩ = some (.slice (some ⟨R, 0, none⟩) (s.size + 1) (s.size + 1)) from (cell_of_block g1).trans g3)
                  have T1 := After.cell (show y.v.cell? ⟨T, i1, none⟩ = some (.slice (some ⟨r0, 0, none⟩) (s.size + 1) (s.size + 1)) from by rw [Hi1.out]; exact (cell_of_block g1).trans g5)
                  have R0 := After.cell (show y.v.cell? ⟨R, k, none⟩ = some (.bool false) from (cell_of_block JJ.row).trans (by rw [brA_get _ _ _ _ (by omega), show decide (k + 1 ≤ k) = false from by rw [decide_eq_false_iff_not]; omega]; rfl))
                  have RF := After.frozen (lt_of_block JJ.row) (show y.v.frozen? ⟨R, k, none⟩ = false from frozen_of_block JJ.row)
                  have Q0 := After.cell (show y.v.cell? ⟨r0, k, none⟩ = some (.bool (tabF m.fold es s.toList i1 k)) from by rw [Hi1.out]; exact (cell_of_block g8).trans (blA_at _ _ _ _ (by omega) (by omega)))
                  have R1 := After.cell (show y.v.cell? ⟨R, k1, none⟩ = some (.bool (tabF m.fold es s.toList i k1)) from by rw [Hk1.out]; exact (cell_of_block JJ.row).trans (brA_at _ _ _ _ (by omega) (by omega)))
                  have Q1 := After.cell (show y.v.cell? ⟨r0, k1, none⟩ = some (.bool (tabF m.fold es s.toList i1 k1)) from by rw [Hk1.out, Hi1.out]; exact (cell_of_block g8).trans (blA_at _ _ _ _ (by omega) (by omega)))
                  have HBX := tabF_one m.fold es s i k x.1 HX1.out hks hm
                  rw [hhb, ← Hi1.out, ← Hk1.out] at HBX
                  clear hm hhb
                  rw [Bool.true_and] at HBX
                  have HB := Lib.hid HBX
                  clear HBX
                  clear JJ g1 g2 g3 g4 g5 g6 g7 g8
                  generalize tabF m.fold es s.toList i1 k1 = b3 at *
                  go_wp2_with fail
                  refine wp_region_after_tail 18 (by kernel_rfl) (by kernel_rfl) ?_
                  simp only [List.take_succ_cons, List.take_zero, List.drop_succ_cons, List.drop_zero]
                  repeat (go_big_quiet_step (fail))
                  refine wpQuiet_nil ?_
                  rintro _ ⟨z, rfl⟩
                  go_wp2_with fail
                  go_roundw
                  case rel => exact ⟨k, (k : Int) - 1, by omega, rfl, by go_num, (HJ.out.on z.x).step (by omega) HB.out⟩
                  case measure => simp [intOf] <;> omega
              | false =>
                rw [hhb] at HH
                go_wp2_with fail
                rw [← hX]
                clear hX
                refine wp_region_after (by kernel_rfl) (by kernel_rfl) ?_
                repeat (go_big_quiet_step (exact After.of (HH _).out))
                refine wpQuiet_nil ?_
                rintro _ ⟨y, rfl⟩
                have HJ := Lib.hid (HJ0.out.on (HXE.out.trans y.x))
                rcases hkind with ⟨hm, rfl⟩ | ⟨hm, rfl⟩ | ⟨hm, hK1, hK2⟩
                · have JJ := HJ.out
                  obtain ⟨A, g1, g2, g3, g4⟩ := JJ.tab
                  obtain ⟨r0, g5, g6, g7, g8⟩ := g4 (by omega)
                  have T0 := After.cell (show y.v.cell? ⟨T, i, none⟩ = some (.slice (some ⟨R, 0, none⟩) (s.size + 1) (s.size + 1)) from (cell_of_block g1).trans g3)
                  have T1 := After.cell (show y.v.cell? ⟨T, i1, none⟩ = some (.slice (some ⟨r0, 0, none⟩) (s.size + 1) (s.size + 1)) from by rw [Hi1.out]; exact (cell_of_block g1).trans g5)
                  have R0 := After.cell (show y.v.cell? ⟨R, k, none⟩ = some (.bool false) from (cell_of_block JJ.row).trans (by rw [brA_get _ _ _ _ (by omega), show decide (k + 1 ≤ k) = false from by rw [decide_eq_false_iff_not]; omega]; rfl))
                  have RF := After.frozen (lt_of_block JJ.row) (show y.v.frozen? ⟨R, k, none⟩ = false from frozen_of_block JJ.row)
                  have Q0 := After.cell (show y.v.cell? ⟨r0, k, none⟩ = some (.bool (tabF m.fold es s.toList i1 k)) from by rw [Hi1.out]; exact (cell_of_block g8).trans (blA_at _ _ _ _ (by omega) (by omega)))
                  have R1 := After.cell (show y.v.cell? ⟨R, k1, none⟩ = some (.bool (tabF m.fold es s.toList i k1)) from by rw [Hk1.out]; exact (cell_of_block JJ.row).trans (brA_at _ _ _ _ (by omega) (by omega)))
                  have Q1 := After.cell (show y.v.cell? ⟨r0, k1, none⟩ = some (.bool (tabF m.fold es s.toList i1 k1)) from by rw [Hk1.out, Hi1.out]; exact (cell_of_block g8).trans (blA_at _ _ _ _ (by omega) (by omega)))
                  have HBX := tabF_many m.fold es s i k x.1 HX1.out hks hm
                  rw [hhb, ← Hi1.out, ← Hk1.out] at HBX
                  rw [Bool.false_and] at HBX
                  have HBX : tabF m.fold es s.toList i k = (tabF m.fold es s.toList i1 k || false && false) := HBX
                  clear hm hhb
                  cases hb1 : tabF m.fold es s.toList i1 k with
                  | true =>
                    rw [hb1] at Q0 HBX
                    have HB := Lib.hid (show tabF m.fold es s.toList i k = true from HBX)
                    clear hb1 HBX
                    clear JJ g1 g2 g3 g4 g5 g6 g7 g8
                    go_wp2_with fail
                    refine wp_region_after_tail 27 (by kernel_rfl) (by kernel_rfl) ?_
                    simp only [List.take_succ_cons, List.take_zero, List.drop_succ_cons, List.drop_zero]
                    repeat (go_big_quiet_step (fail))
                    refine wpQuiet_nil ?_
                    rintro _ ⟨z, rfl⟩
                    go_wp2_with fail
                    go_roundw
                    case rel => exact ⟨k, (k : Int) - 1, by omega, rfl, by go_num, (HJ.out.on z.x).step (by omega) HB.out⟩
                    case measure => simp [intOf] <;> omega
                  | false =>
                    rw [hb1] at Q0 HBX
                    have HB := Lib.hid (show tabF m.fold es s.toList i k = false from HBX)
                    clear hb1 HBX
                    clear JJ g1 g2 g3 g4 g5 g6 g7 g8
                    go_wp2_with fail
                    refine wp_region_after_tail 27 (by kernel_rfl) (by kernel_rfl) ?_
                    simp only [List.take_succ_cons, List.take_zero, List.drop_succ_cons, List.drop_zero]
                    repeat (go_big_quiet_step (fail))
                    refine wpQuiet_nil ?_
                    rintro _ ⟨z, rfl⟩
                    go_wp2_with fail
                    go_roundw
                    case rel => exact ⟨k, (k : Int) - 1, by omega, rfl, by go_num, (HJ.out.on z.x).step (by omega) HB.out⟩
                    case measure => simp [intOf] <;> omega
                · have JJ := HJ.out
                  obtain ⟨A, g1, g2, g3, g4⟩ := JJ.tab
                  obtain ⟨r0, g5, g6, g7, g8⟩ := g4 (by omega)
                  have T0 := After.cell (show y.v.cell? ⟨T, i, none⟩ = some (.slice (some ⟨R, 0, none⟩) (s.size + 1) (s.size + 1)) from (cell_of_block g1).trans g3)
                  have T1 := After.cell (show y.v.cell? ⟨T, i1, none⟩ = some (.slice (some ⟨r0, 0, none⟩) (s.size + 1) (s.size + 1)) from by rw [Hi1.out]; exact (cell_of_block g1).trans g5)
                  have R0 := After.cell (show y.v.cell? ⟨R, k, none⟩ = some (.bool false) from (cell_of_block JJ.row).trans (by rw [brA_get _ _ _ _ (by omega), show decide (k + 1 ≤ k) = false from by rw [decide_eq_false_iff_not]; omega]; rfl))
                  have RF := After.frozen (lt_of_block JJ.row) (show y.v.frozen? ⟨R, k, none⟩ = false from frozen_of_block JJ.row)
                  have Q0 := After.cell (show y.v.cell? ⟨r0, k, none⟩ = some (.bool (tabF m.fold es s.toList i1 k)) from by rw [Hi1.out]; exact (cell_of_block g8).trans (blA_at _ _ _ _ (by omega) (by omega)))
                  have R1 := After.cell (show y.v.cell? ⟨R, k1, none⟩ = some (.bool (tabF m.fold es s.toList i k1)) from by rw [Hk1.out]; exact (cell_of_block JJ.row).trans (brA_at _ _ _ _ (by omega) (by omega)))
                  have Q1 := After.cell (show y.v.cell? ⟨r0, k1, none⟩ = some (.bool (tabF m.fold es s.toList i1 k1)) from by rw [Hk1.out, Hi1.out]; exact (cell_of_block g8).trans (blA_at _ _ _ _ (by omega) (by omega)))
                  have HBX := tabF_many m.fold es s i k x.1 HX1.out hks hm
                  rw [hhb, ← Hi1.out, ← Hk1.out] at HBX
                  rw [Bool.false_and] at HBX
                  have HBX : tabF m.fold es s.toList i k = (tabF m.fold es s.toList i1 k || false && false) := HBX
                  clear hm hhb
                  cases hb1 : tabF m.fold es s.toList i1 k with
                  | true =>
                    rw [hb1] at Q0 HBX
                    have HB := Lib.hid (show tabF m.fold es s.toList i k = true from HBX)
                    clear hb1 HBX
                    clear JJ g1 g2 g3 g4 g5 g6 g7 g8
                    go_wp2_with fail
                    refine wp_region_after_tail 27 (by kernel_rfl) (by kernel_rfl) ?_
                    simp only [List.take_succ_cons, List.take_zero, List.drop_succ_cons, List.drop_zero]
                    repeat (go_big_quiet_step (fail))
                    refine wpQuiet_nil ?_
                    rintro _ ⟨z, rfl⟩
                    go_wp2_with fail
                    go_roundw
                    case rel => exact ⟨k, (k : Int) - 1, by omega, rfl, by go_num, (HJ.out.on z.x).step (by omega) HB.out⟩
                    case measure => simp [intOf] <;> omega
                  | false =>
                    rw [hb1] at Q0 HBX
                    have HB := Lib.hid (show tabF m.fold es s.toList i k = false from HBX)
                    clear hb1 HBX
                    clear JJ g1 g2 g3 g4 g5 g6 g7 g8
                    go_wp2_with fail
                    refine wp_region_after_tail 27 (by kernel_rfl) (by kernel_rfl) ?_
                    simp only [List.take_succ_cons, List.take_zero, List.drop_succ_cons, List.drop_zero]
                    repeat (go_big_quiet_step (fail))
                    refine wpQuiet_nil ?_
                    rintro _ ⟨z, rfl⟩
                    go_wp2_with fail
                    go_roundw
                    case rel => exact ⟨k, (k : Int) - 1, by omega, rfl, by go_num, (HJ.out.on z.x).step (by omega) HB.out⟩
                    case measure => simp [intOf] <;> omega
                · have JJ := HJ.out
                  obtain ⟨A, g1, g2, g3, g4⟩ := JJ.tab
                  obtain ⟨r0, g5, g6, g7, g8⟩ := g4 (by omega)
                  have T0 := After.cell (show y.v.cell? ⟨T, i, none⟩ = some (.slice (some ⟨R, 0, none⟩) (s.size + 1) (s.size + 1)) from (cell_of_block g1).trans g3)
                  have T1 := After.cell (show y.v.cell? ⟨T, i1, none⟩ = some (.slice (some ⟨r0, 0, none⟩) (s.size + 1) (s.size + 1)) from by rw [Hi1.out]; exact (cell_of_block g1).trans g5)
                  have R0 := After.cell (show y.v.cell? ⟨R, k, none⟩ = some (.bool false) from (cell_of_block JJ.row).trans (by rw [brA_get _ _ _ _ (by omega), show decide (k + 1 ≤ k) = false from by rw [decide_eq_false_iff_not]; omega]; rfl))
                  have RF := After.frozen (lt_of_block JJ.row) (show y.v.frozen? ⟨R, k, none⟩ = false from frozen_of_block JJ.row)
                  have Q0 := After.cell (show y.v.cell? ⟨r0, k, none⟩ = some (.bool (tabF m.fold es s.toList i1 k)) from by rw [Hi1.out]; exact (cell_of_block g8).trans (blA_at _ _ _ _ (by omega) (by omega)))
                  have R1 := After.cell (show y.v.cell? ⟨R, k1, none⟩ = some (.bool (tabF m.fold es s.toList i k1)) from by rw [Hk1.out]; exact (cell_of_block JJ.row).trans (brA_at _ _ _ _ (by omega) (by omega)))
                  have Q1 := After.cell (show y.v.cell? ⟨r0, k1, none⟩ = some (.bool (tabF m.fold es s.toList i1 k1)) from by rw [Hk1.out, Hi1.out]; exact (cell_of_block g8).trans (blA_at _ _ _ _ (by omega) (by omega)))
                  have HBX := tabF_one m.fold es s i k x.1 HX1.out hks hm
                  rw [hhb, ← Hi1.out, ← Hk1.out] at HBX
                  rw [Bool.false_and] at HBX
                  clear hm hhb
                  have HB := Lib.hid (show tabF m.fold es s.toList i k = false from HBX)
                  clear HBX
                  clear JJ g1 g2 g3 g4 g5 g6 g7 g8
                  go_wp2_with fail
                  refine wp_region_after_tail 18 (by kernel_rfl) (by kernel_rfl) ?_
                  simp only [List.take_succ_cons, List.take_zero, List.drop_succ_cons, List.drop_zero]
                  repeat (go_big_quiet_step (fail))
                  refine wpQuiet_nil ?_
                  rintro _ ⟨z, rfl⟩
                  go_wp2_with fail
                  go_roundw
                  case rel => exact ⟨k, (k : Int) - 1, by omega, rfl, by go_num, (HJ.out.on z.x).step (by omega) HB.out⟩
                  case measure => simp [intOf] <;> omega
            · have hkl : k = s.size := by omega
              have d0 : decide ((k : Int) < (s.size : Int)) = false := by rw [decide_eq_false_iff_not]; omega
              have d1 : decide (k < s.size) = false := by rw [decide_eq_false_iff_not]; omega
              clear HH0 bk
              go_wp2_with fail
              rw [← hX]
              clear hX
              refine wp_region_after (by kernel_rfl) (by kernel_rfl) ?_
              repeat (go_big_quiet_step (fail))
              refine wpQuiet_nil ?_
              rintro _ ⟨y, rfl⟩
              have HJ := Lib.hid (HJ0.out.on (HXE.out.trans y.x))
              rcases hkind with ⟨hm, rfl⟩ | ⟨hm, rfl⟩ | ⟨hm, hK1, hK2⟩
              · have JJ := HJ.out
                obtain ⟨A, g1, g2, g3, g4⟩ := JJ.tab
                obtain ⟨r0, g5, g6, g7, g8⟩ := g4 (by omega)
                have T0 := After.cell (show y.v.cell? ⟨T, i, none⟩ = some (.slice (some ⟨R, 0, none⟩) (s.size + 1) (s.size + 1)) from (cell_of_block g1).trans g3)
                have T1 := After.cell (show y.v.cell? ⟨T, i1, none⟩ = some (.slice (some ⟨r0, 0, none⟩) (s.size + 1) (s.size + 1)) from by rw [Hi1.out]; exact (cell_of_block g1).trans g5)
                have R0 := After.cell (show y.v.cell? ⟨R, k, none⟩ = some (.bool false) from (cell_of_block JJ.row).trans (by rw [brA_get _ _ _ _ (by omega), show decide (k + 1 ≤ k) = false from by rw [decide_eq_false_iff_not]; omega]; rfl))
                have RF := After.frozen (lt_of_block JJ.row) (show y.v.frozen? ⟨R, k, none⟩ = false from frozen_of_block JJ.row)
                have Q0 := After.cell (show y.v.cell? ⟨r0, k, none⟩ = some (.bool (tabF m.fold es s.toList i1 k)) from by rw [Hi1.out]; exact (cell_of_block g8).trans (blA_at _ _ _ _ (by omega) (by omega)))
                have HBX := tabF_end m.fold es s i x.1 HX1.out
                rw [hm, Bool.true_and, ← Hi1.out, ← hkl] at HBX
                have HBX : tabF m.fold es s.toList i k = (tabF m.fold es s.toList i1 k || false && false) := by rw [HBX]; simp
                clear hm hkl
                cases hb1 : tabF m.fold es s.toList i1 k with
                | true =>
                  rw [hb1] at Q0 HBX
                  have HB := Lib.hid (show tabF m.fold es s.toList i k = true from HBX)
                  clear hb1 HBX
                  clear JJ g1 g2 g3 g4 g5 g6 g7 g8
                  go_wp2_with fail
                  refine wp_region_after_tail 27 (by kernel_rfl) (by kernel_rfl) ?_
                  simp only [List.take_succ_cons, List.take_zero, List.drop_succ_cons, List.drop_zero]
                  repeat (go_big_quiet_step (fail))
                  refine wpQuiet_nil ?_
                  rintro _ ⟨z, rfl⟩
                  go_wp2_with fail
                  go_roundw
                  case rel => exact ⟨k, (k : Int) - 1, by omega, rfl, by go_num, (HJ.out.on z.x).step (by omega) HB.out⟩
                  case measure => simp [intOf] <;> omega
                | false =>
                  rw [hb1] at Q0 HBX
                  have HB := Lib.hid (show tabF m.fold es s.toList i k = false from HBX)
                  clear hb1 HBX
                  clear JJ g1 g2 g3 g4 g5 g6 g7 g8
                  go_wp2_with fail
                  refine wp_region_after_tail 27 (by kernel_rfl) (by kernel_rfl) ?_
                  simp only [List.take_succ_cons, List.take_zero, List.drop_succ_cons, List.drop_zero]
                  repeat (go_big_quiet_step (fail))
                  refine wpQuiet_nil ?_
                  rintro _ ⟨z, rfl⟩
                  go_wp2_with fail
                  go_roundw
                  case rel => exact ⟨k, (k : Int) - 1, by omega, rfl, by go_num, (HJ.out.on z.x).step (by omega) HB.out⟩
                  case measure => simp [intOf] <;> omega
              · have JJ := HJ.out
                obtain ⟨A, g1, g2, g3, g4⟩ := JJ.tab
                obtain ⟨r0, g5, g6, g7, g8⟩ := g4 (by omega)
                have T0 := After.cell (show y.v.cell? ⟨T, i, none⟩ = some (.slice (some ⟨R, 0, none⟩) (s.size + 1) (s.size + 1)) from (cell_of_block g1).trans g3)
                have T1 := After.cell (show y.v.cell? ⟨T, i1, none⟩ = some (.slice (some ⟨r0, 0, none⟩) (s.size + 1) (s.size + 1)) from by rw [Hi1.out]; exact (cell_of_block g1).trans g5)
                have R0 := After.cell (show y.v.cell? ⟨R, k, none⟩ = some (.bool false) from (cell_of_block JJ.row).trans (by rw [brA_get _ _ _ _ (by omega), show decide (k + 1 ≤ k) = false from by rw [decide_eq_false_iff_not]; omega]; rfl))
                have RF := After.frozen (lt_of_block JJ.row) (show y.v.frozen? ⟨R, k, none⟩ = false from frozen_of_block JJ.row)
                have Q0 := After.cell (show y.v.cell? ⟨r0, k, none⟩ = some (.bool (tabF m.fold es s.toList i1 k)) from by rw [Hi1.out]; exact (cell_of_block g8).trans (blA_at _ _ _ _ (by omega) (by omega)))
                have HBX := tabF_end m.fold es s i x.1 HX1.out
                rw [hm, Bool.true_and, ← Hi1.out, ← hkl] at HBX
                have HBX : tabF m.fold es s.toList i k = (tabF m.fold es s.toList i1 k || false && false) := by rw [HBX]; simp
                clear hm hkl
                cases hb1 : tabF m.fold es s.toList i1 k with
                | true =>
                  rw [hb1] at Q0 HBX
                  have HB := Lib.hid (show tabF m.fold es s.toList i k = true from HBX)
                  clear hb1 HBX
                  clear JJ g1 g2 g3 g4 g5 g6 g7 g8
                  go_wp2_with fail
                  refine wp_region_after_tail 27 (by kernel_rfl) (by kernel_rfl) ?_
                  simp only [List.take_succ_cons, List.take_zero, List.drop_succ_cons, List.drop_zero]
                  repeat (go_big_quiet_step (fail))
                  refine wpQuiet_nil ?_
                  rintro _ ⟨z, rfl⟩
                  go_wp2_with fail
                  go_roundw
                  case rel => exact ⟨k, (k : Int) - 1, by omega, rfl, by go_num, (HJ.out.on z.x).step (by omega) HB.out⟩
                  case measure => simp [intOf] <;> omega
                | false =>
                  rw [hb1] at Q0 HBX
                  have HB := Lib.hid (show tabF m.fold es s.toList i k = false from HBX)
                  clear hb1 HBX
                  clear JJ g1 g2 g3 g4 g5 g6 g7 g8
                  go_wp2_with fail
                  refine wp_region_after_tail 27 (by kernel_rfl) (by kernel_rfl) ?_
                  simp only [List.take_succ_cons, List.take_zero, List.drop_succ_cons, List.drop_zero]
                  repeat (go_big_quiet_step (fail))
                  refine wpQuiet_nil ?_
                  rintro _ ⟨z, rfl⟩
                  go_wp2_with fail
                  go_roundw
                  case rel => exact ⟨k, (k : Int) - 1, by omega, rfl, by go_num, (HJ.out.on z.x).step (by omega) HB.out⟩
                  case measure => simp [intOf] <;> omega
              · have JJ := HJ.out
                obtain ⟨A, g1, g2, g3, g4⟩ := JJ.tab
                obtain ⟨r0, g5, g6, g7, g8⟩ := g4 (by omega)
                have T0 := After.cell (show y.v.cell? ⟨T, i, none⟩ = some (.slice (some ⟨R, 0, none⟩) (s.size + 1) (s.size + 1)) from (cell_of_block g1).trans g3)
                have T1 := After.cell (show y.v.cell? ⟨T, i1, none⟩ = some (.slice (some ⟨r0, 0, none⟩) (s.size + 1) (s.size + 1)) from by rw [Hi1.out]; exact (cell_of_block g1).trans g5)
                have R0 := After.cell (show y.v.cell? ⟨R, k, none⟩ = some (.bool false) from (cell_of_block JJ.row).trans (by rw [brA_get _ _ _ _ (by omega), show decide (k + 1 ≤ k) = false from by rw [decide_eq_false_iff_not]; omega]; rfl))
                have RF := After.frozen (lt_of_block JJ.row) (show y.v.frozen? ⟨R, k, none⟩ = false from frozen_of_block JJ.row)
                have Q0 := After.cell (show y.v.cell? ⟨r0, k, none⟩ = some (.bool (tabF m.fold es s.toList i1 k)) from by rw [Hi1.out]; exact (cell_of_block g8).trans (blA_at _ _ _ _ (by omega) (by omega)))
                have HBX := tabF_end m.fold es s i x.1 HX1.out
                rw [hm, Bool.false_and, ← hkl] at HBX
                clear hm hkl
                have HB := Lib.hid (show tabF m.fold es s.toList i k = false from HBX)
                clear HBX
                clear JJ g1 g2 g3 g4 g5 g6 g7 g8
                go_wp2_with fail
                refine wp_region_after_tail 18 (by kernel_rfl) (by kernel_rfl) ?_
                simp only [List.take_succ_cons, List.take_zero, List.drop_succ_cons, List.drop_zero]
                repeat (go_big_quiet_step (fail))
                refine wpQuiet_nil ?_
                rintro _ ⟨z, rfl⟩
                go_wp2_with fail
                go_roundw
                case rel => exact ⟨k, (k : Int) - 1, by omega, rfl, by go_num, (HJ.out.on z.x).step (by omega) HB.out⟩
                case measure => simp [intOf] <;> omega
end Go.Proofs.YtlabhbeacogfbaaDoor
