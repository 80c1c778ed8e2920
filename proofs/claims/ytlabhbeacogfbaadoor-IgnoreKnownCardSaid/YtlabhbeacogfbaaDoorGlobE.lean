/- Contracts of caravan/glob's mark, marks, element. -/
import Derived.Test.YtlabhbeacogfbaaDoorGlobD
namespace Go.Proofs.YtlabhbeacogfbaaDoor
open Go.RowKit

def markPo (o : Option (Nat × Nat)) (bp : Nat) : Option Addr := match o with | none => none | some (k, _) => some ⟨bp, k, none⟩
def markNo (o : Option (Nat × Nat)) : Nat := match o with | none => 0 | some (_, l) => l

set_option maxHeartbeats 1000000 in
theorem mark_any (bp : Nat) (s : ByteArray) (w : World) :
    Calls Tryd.prog 67 #[.pointer (some ⟨bp, 0, none⟩), .string s] w fun e w' => e = .returned (.tuple #[.pointer (markPo (markL s.toList) bp), .int .i64 (markNo (markL s.toList))]) ∧ w' = w := by
  have H1 := fun w => Lib.hid (Tryd.strings_HasPrefix s ⟨#[33]⟩ w)
  have H2 := fun w => Lib.hid (Tryd.strings_HasPrefix s ⟨#[40, 63, 105, 41]⟩ w)
  have H3 := fun w => Lib.hid (Tryd.strings_HasPrefix s ⟨#[40, 63, 100, 41]⟩ w)
  have HM : markL s.toList = if Lib.hasPrefix s.data.toList [33] then some (1, 1) else if Lib.hasPrefix s.data.toList [40, 63, 105, 41] then some (3, 4) else if Lib.hasPrefix s.data.toList [40, 63, 100, 41] then some (2, 4) else none := by
    rw [← Lib.toList_data]; rfl
  rw [HM]
  clear HM
  simp only at H1 H2 H3
  generalize Lib.hasPrefix s.data.toList [33] = b1 at *
  generalize Lib.hasPrefix s.data.toList [40, 63, 105, 41] = b2 at *
  generalize Lib.hasPrefix s.data.toList [40, 63, 100, 41] = b3 at *
  cases b1
  · cases b2
    · cases b3
      · go_enter Tryd.func67, Tryd.ntmps67
        go_wp2_with fail
        refine ((H1 _).out).mono ?_
        rintro e w1 ⟨rfl, hw⟩
        obtain rfl := hw.symm
        go_wp2_with fail
        refine ((H2 _).out).mono ?_
        rintro e w1 ⟨rfl, hw⟩
        obtain rfl := hw.symm
        go_wp2_with fail
        refine ((H3 _).out).mono ?_
        rintro e w1 ⟨rfl, hw⟩
        obtain rfl := hw.symm
        go_wp2_with fail
        go_ret2
        exact ⟨rfl, rfl⟩
      · go_enter Tryd.func67, Tryd.ntmps67
        go_wp2_with fail
        refine ((H1 _).out).mono ?_
        rintro e w1 ⟨rfl, hw⟩
        obtain rfl := hw.symm
        go_wp2_with fail
        refine ((H2 _).out).mono ?_
        rintro e w1 ⟨rfl, hw⟩
        obtain rfl := hw.symm
        go_wp2_with fail
        refine ((H3 _).out).mono ?_
        rintro e w1 ⟨rfl, hw⟩
        obtain rfl := hw.symm
        go_wp2_with fail
        go_ret2
        exact ⟨rfl, rfl⟩
    · go_enter Tryd.func67, Tryd.ntmps67
      go_wp2_with fail
      refine ((H1 _).out).mono ?_
      rintro e w1 ⟨rfl, hw⟩
      obtain rfl := hw.symm
      go_wp2_with fail
      refine ((H2 _).out).mono ?_
      rintro e w1 ⟨rfl, hw⟩
      obtain rfl := hw.symm
      go_wp2_with fail
      go_ret2
      exact ⟨rfl, rfl⟩
  · go_enter Tryd.func67, Tryd.ntmps67
    go_wp2_with fail
    refine ((H1 _).out).mono ?_
    rintro e w1 ⟨rfl, hw⟩
    obtain rfl := hw.symm
    go_wp2_with fail
    go_ret2
    exact ⟨rfl, rfl⟩

/-- A pattern's block. -/
def patCells (t : Value) (m : Marks) (rooted : Bool) (el : Value) : Array Value := #[t, .bool m.neg, .bool m.del, .bool m.fold, .bool rooted, el]

theorem markL_cases (s : List UInt8) : markL s = none ∨ ∃ k l, markL s = some (k, l) ∧ (k = 1 ∨ k = 2 ∨ k = 3) ∧ 1 ≤ l ∧ l ≤ s.length := by
  unfold markL
  split
  · rename_i h; right; exact ⟨1, 1, rfl, .inl rfl, by decide, (List.isPrefixOf_iff_prefix.1 h).length_le⟩
  · split
    · rename_i h; right; exact ⟨3, 4, rfl, .inr (.inr rfl), by decide, (List.isPrefixOf_iff_prefix.1 h).length_le⟩
    · split
      · rename_i h; right; exact ⟨2, 4, rfl, .inr (.inl rfl), by decide, (List.isPrefixOf_iff_prefix.1 h).length_le⟩
      · left; rfl

theorem patCells_get (t el : Value) (m : Marks) (r : Bool) (k : Nat) (hk : k = 1 ∨ k = 2 ∨ k = 3) : (patCells t m r el)[k]? = some (.bool (m.get k)) := by
  rcases hk with rfl | rfl | rfl <;> rfl
theorem patCells_put (t el : Value) (m : Marks) (r : Bool) (k : Nat) (hk : k = 1 ∨ k = 2 ∨ k = 3) : (patCells t m r el).setIfInBounds k (.bool true) = patCells t (m.put k) r el := by
  rcases hk with rfl | rfl | rfl <;> rfl

theorem rootL_eq (u : ByteArray) : rootL u.toList = (Lib.hasPrefix u.data.toList [47], Lib.trimPrefix u.data.toList [47]) := by
  rw [← Lib.toList_data, Lib.trimPrefix]
  cases h : u.toList with
  | nil => rfl
  | cons c t =>
    by_cases hc : c = 47
    · subst hc; rfl
    · have : Lib.hasPrefix (c :: t) [47] = false := by
        rw [Lib.hasPrefix]; show ((47 : UInt8) == c && _) = false; rw [beq_eq_false_iff_ne.2 (Ne.symm hc)]; rfl
      rw [this]
      unfold rootL
      split
      · rename_i h3; cases h3; exact absurd rfl hc
      · rfl

/-- What 'marks' answers. -/
def MarksPost (w : World) (bp : Nat) (t el : Value) (R : Option (Marks × List UInt8)) (e : Ending) (w' : World) : Prop :=
  Below bp w w' ∧ w'.heap.size = w.heap.size ∧ (match R with
    | none => e = .returned (.tuple #[.string ByteArray.empty, .bool false])
    | some (m, r) => e = .returned (.tuple #[.string (bsL (rootL r).2), .bool (decide (0 < (rootL r).2.length))]) ∧ w'.heap[bp]? = some (.cells (patCells t m (rootL r).1 el) 81 (0, 0)))

set_option maxHeartbeats 1000000 in
theorem marks_any (bp : Nat) (s : ByteArray) (t el : Value) (m0 : Marks) (r0 : Bool) (w : World) (hb : w.heap[bp]? = some (.cells (patCells t m0 r0 el) 81 (0, 0))) :
    Calls Tryd.prog 48 #[.pointer (some ⟨bp, 0, none⟩), .string s] w (MarksPost w bp t el (marksL (s.size + 1) m0 s.toList)) := by
  have HM := fun u w => Lib.hid (mark_any bp u w)
  have HC := fun u w => Lib.hid (Tryd.strings_CutPrefix u ⟨#[47]⟩ w)
  have HB := Lib.hid hb
  clear hb
  obtain ⟨R, hR0⟩ : ∃ R, R = marksL (s.size + 1) m0 s.toList := ⟨_, rfl⟩
  rw [← hR0]
  have HR0 := Lib.hid hR0
  clear hR0
  go_enter Tryd.func48, Tryd.ntmps48
  go_wp2_with fail
  refine ((HM _ _).out).mono ?_
  rintro e w1 ⟨rfl, hw⟩
  obtain rfl := hw.symm
  go_wp2_with fail
  go_loopw [1, 6, 7] (fun sv fl nv wr => Hid (∃ (u : ByteArray) (m : Marks) (f : Nat), sv = .string u ∧ fl = .pointer (markPo (markL u.toList) bp) ∧ nv = .int .i64 (markNo (markL u.toList)) ∧ u.size < f ∧ u.size ≤ s.size ∧ marksL f m u.toList = R ∧
      wr.heap[bp]? = some (.cells (patCells t m r0 el) 81 (0, 0)) ∧ Below bp w wr ∧ wr.heap.size = w.heap.size)) (fun sv _ _ _ => match sv with | .string u => u.size | _ => 0)
  case atStart => exact ⟨s, m0, s.size + 1, rfl, rfl, rfl, by omega, by omega, HR0.out.symm, HB.out, Below.refl _ _, rfl⟩
  case round =>
    obtain ⟨u, m, f, rfl, rfl, rfl, hf, hu, hR, hp, hbl, hsz⟩ := hrel.out
    clear hrel
    obtain ⟨f, rfl⟩ : ∃ g, f = g + 1 := ⟨f - 1, by omega⟩
    rcases markL_cases u.toList with hm | ⟨k, l, hm, hk, hl1, hl2⟩
    · rw [hm, show markPo none bp = none from rfl, show markNo none = 0 from rfl]
      have HF := Lib.hid (show some (m, u.toList) = R from by rw [← hR, marksL, hm])
      have HX := Lib.hid hp
      have c4 : wr.cell? ⟨bp, 4, none⟩ = some (.bool r0) := cell_of_block hp
      have f4 : wr.frozen? ⟨bp, 4, none⟩ = false := frozen_of_block hp
      have HL := Lib.hid hbl
      have HZ := Lib.hid hsz
      have HR1 := Lib.hid (show rootL u.toList = (Lib.hasPrefix u.data.toList [47], Lib.trimPrefix u.data.toList [47]) from rootL_eq u)
      clear hp hR hm hbl hsz
      have HCu := HC u
      clear HC HM
      have hts : (⟨(Lib.trimPrefix u.data.toList [47]).toArray⟩ : ByteArray).size = (Lib.trimPrefix u.data.toList [47]).length := by simp [ByteArray.size]
      generalize Lib.hasPrefix u.data.toList [47] = rb at *
      generalize Lib.trimPrefix u.data.toList [47] = rt at *
      go_wp2_with fail
      refine ((HCu _).out).mono ?_
      rintro e w1 ⟨rfl, hw1⟩
      obtain rfl := hw1.symm
      go_wp2_with fail
      go_ret2
      refine ⟨HL.out.setCell (Nat.le_refl _) _, by simp [HZ.out], ?_⟩
      rw [← HF.out]
      simp only [HR1.out]
      refine ⟨?_, ?_⟩
      · rfl
      · exact heap_setCell_same _ _ _ _ _ _ HX.out
    · have HK := Lib.hid (show R = if m.get k then none else marksL f (m.put k) (u.toList.drop l) from by rw [← hR, marksL, hm])
      rw [hm, show markPo (some (k, l)) bp = some ⟨bp, k, none⟩ from rfl, show markNo (some (k, l)) = l from rfl]
      have HX := Lib.hid hp
      have ck : wr.cell? ⟨bp, k, none⟩ = some (.bool (m.get k)) := (cell_of_block hp).trans (patCells_get t el m r0 k hk)
      have fk : wr.frozen? ⟨bp, k, none⟩ = false := frozen_of_block hp
      have HL := Lib.hid hbl
      have HZ := Lib.hid hsz
      have HKK := Lib.hid hk
      have hl3 : l ≤ u.size := by rw [← len_toList]; exact hl2
      clear hp hR hm hbl hsz hk hl2
      cases hg : m.get k
      · rw [hg] at ck HK
        go_wp2_with fail
        refine ((HM _ _).out).mono ?_
        rintro e w1 ⟨rfl, hw1⟩
        obtain rfl := hw1.symm
        go_wp2_with fail
        go_roundw
        case rel =>
          refine ⟨u.extract l u.size, m.put k, f, rfl, rfl, rfl, by simp; omega, by simp; omega, ?_, ?_, HL.out.setCell (Nat.le_refl _) _, by simp [HZ.out]⟩
          · rw [ext_toList, HK.out]; rfl
          · rw [← patCells_put t el m r0 k HKK.out]; exact heap_setCell_same _ _ _ _ _ _ HX.out
        case measure => simp; omega
      · rw [hg] at ck HK
        go_wp2_with fail
        go_ret2
        refine ⟨HL.out, HZ.out, ?_⟩
        rw [HK.out]
        rfl
end Go.Proofs.YtlabhbeacogfbaaDoor
