/- Contract of caravan/glob's element: one element taken off a text that is not empty. -/
import Derived.Test.YtlabhbeacogfbaaDoorGlobE
import Derived.Outline
namespace Go.Proofs.YtlabhbeacogfbaaDoor
open Go.RowKit

/-- What 'element' answers. -/
def EltPost (w : World) (bp : Nat) (s : ByteArray) (e : Ending) (w' : World) : Prop := (∃ u b n, e = .returned (.tuple #[.agg #[u, .bool b], .int .i64 n]) ∧ FnV u ∧
      (match elementL s.toList with | none => n = 0 | some (x, r) => n = (s.size - r.length : Nat) ∧ b = x.many ∧ GFn w' bp (fun b => w.heap.size ≤ b) x u)) ∧ Ext w w'

theorem EltPost.of_some {w w' : World} {bp : Nat} {s : ByteArray} {F : FuncId} {cap : Array Value} {b : Bool} {n : Int} {x : GE} {r : List UInt8} (h : elementL s.toList = some (x, r)) (hn : n = (s.size - r.length : Nat)) (hb : b = x.many)
    (he : GFn w' bp (fun b => w.heap.size ≤ b) x (.func (.func F) #[] cap)) (k : Ext w w') : EltPost w bp s (.returned (.tuple #[.agg #[.func (.func F) #[] cap, .bool b], .int .i64 n])) w' := ⟨⟨_, _, _, rfl, .inr ⟨_, _, rfl⟩, by rw [h]; exact ⟨hn, hb, he⟩⟩, k⟩
theorem EltPost.of_none {w w' : World} {bp : Nat} {s : ByteArray} {u : Value} {b : Bool} (h : elementL s.toList = none) (hu : FnV u) (k : Ext w w') :
    EltPost w bp s (.returned (.tuple #[.agg #[u, .bool b], .int .i64 0])) w' := ⟨⟨_, _, _, rfl, hu, by rw [h]⟩, k⟩

/-- The kinds of elements, by the text's first bytes. -/
theorem element_cases (s : ByteArray) (h : 0 < s.size) :
    (Lib.hasPrefix s.data.toList [42, 42] = true ∧ 2 ≤ s.size ∧ elementL s.toList = some (.all, s.toList.drop 2)) ∨
    (Lib.hasPrefix s.data.toList [42, 42] = false ∧ s[0] = 42 ∧ elementL s.toList = some (.some, s.toList.drop 1)) ∨
    (Lib.hasPrefix s.data.toList [42, 42] = false ∧ s[0] = 63 ∧ elementL s.toList = some (.any, s.toList.drop 1)) ∨
    (Lib.hasPrefix s.data.toList [42, 42] = false ∧ s[0] = 47 ∧ elementL s.toList = some (.byt 47, s.toList.drop 1)) ∨
    (Lib.hasPrefix s.data.toList [42, 42] = false ∧ s[0] = 91 ∧ elementL s.toList = classL (s.toList.drop 1)) ∨
    (Lib.hasPrefix s.data.toList [42, 42] = false ∧ s[0] ≠ 42 ∧ s[0] ≠ 63 ∧ s[0] ≠ 47 ∧ s[0] ≠ 91 ∧ elementL s.toList = match writtenL s.toList with | none => none | some (c, r) => some (.byt c, r)) := by
  have hl := toList_cons s h
  rw [← ext_toList s 1, ← Lib.toList_data]
  generalize (s.extract 1 s.size).toList = t at *
  have hz : s.size = t.length + 1 := by rw [← len_toList, hl]; rfl
  have hd2 : s.toList.drop 2 = t.drop 1 := by rw [hl]; rfl
  rw [hd2, hl]
  generalize s[0] = c at *
  have np : c ≠ 42 → Lib.hasPrefix (c :: t) [42, 42] = false := fun e => by
    rw [Lib.hasPrefix]; show ((42 : UInt8) == c && _) = false; rw [beq_eq_false_iff_ne.2 (Ne.symm e)]; rfl
  by_cases h1 : c = 42
  · subst h1
    cases t with
    | nil => right; left; exact ⟨rfl, rfl, rfl⟩
    | cons d u =>
      by_cases h2 : d = 42
      · subst h2; left; exact ⟨rfl, by simp at hz; omega, rfl⟩
      · right; left
        refine ⟨?_, rfl, ?_⟩
        · rw [Lib.hasPrefix]; show ((42 : UInt8) == 42 && ((42 : UInt8) == d && _)) = false; rw [beq_eq_false_iff_ne.2 (Ne.symm h2)]; rfl
        · unfold elementL
          split
          all_goals first
            | (rename_i h3; cases h3; first | rfl | exact absurd rfl h2)
            | (exfalso; simp_all)
  · have n1 := np h1
    right; right
    by_cases h2 : c = 63
    · subst h2; left; exact ⟨n1, rfl, rfl⟩
    · right
      by_cases h3 : c = 47
      · subst h3; left; exact ⟨n1, rfl, rfl⟩
      · right
        by_cases h4 : c = 91
        · subst h4; left; exact ⟨n1, rfl, rfl⟩
        · right
          refine ⟨n1, h1, h2, h3, h4, ?_⟩
          unfold elementL
          split
          · rename_i q; cases q; exact absurd rfl h1
          · rename_i q; cases q; exact absurd rfl h1
          · rename_i q; cases q; exact absurd rfl h2
          · rename_i q; cases q; exact absurd rfl h3
          · rename_i q; cases q; exact absurd rfl h4
          · rfl

theorem gfn_shape {w : World} {bp : Nat} {Far : Nat → Prop} {e : GE} {v : Value} (h : GFn w bp Far e v) : ∃ F cap, v = .func (.func F) #[] cap := by
  cases e with
  | all => exact ⟨_, _, h⟩
  | some => exact ⟨_, _, h⟩
  | any => exact ⟨_, _, h⟩
  | byt c => obtain ⟨_, _, h, _⟩ := h; exact ⟨_, _, h⟩
  | set neg rs => obtain ⟨_, _, _, _, _, h, _⟩ := h; exact ⟨_, _, h⟩

/-- What is far behind a block stays when the block is stored into. -/
theorem gfn_stored {w w1 : World} {o : Obj} {bp : Nat} {e : GE} {v a b : Value} (x : Ext (w.alloc o) w1) (h : GFn w1 bp (fun b => (w.alloc o).heap.size ≤ b) e v) :
    GFn ((w1.setCell ⟨w.heap.size, 0, none⟩ a).setCell ⟨w.heap.size, 1, none⟩ b) bp (fun b => w.heap.size ≤ b) e v ∧ Ext w ((w1.setCell ⟨w.heap.size, 0, none⟩ a).setCell ⟨w.heap.size, 1, none⟩ b) := by
  have hz : (w.alloc o).heap.size = w.heap.size + 1 := by simp
  refine ⟨?_, (((Ext.refl w).alloc o).trans x).setCell (Nat.le_refl _) a |>.setCell (Nat.le_refl _) b⟩
  refine (h.keeps ⟨by simp, fun b' o' hb hl => World.cell?_of_block ?_⟩).far (fun b' _ hb => by omega)
  simp only
  rw [heap_setCell_other _ _ _ _ (by simp; omega), heap_setCell_other _ _ _ _ (by simp; omega)]

/-- The first block that a call makes, in the world behind a callee. -/
theorem first_block {w w1 : World} {o : Obj} (x : Ext (w.alloc o) w1) : w1.heap[w.heap.size]? = some o := (x.block (by simp)).trans (heap_alloc_new _ _)

theorem one_zero {s : ByteArray} (h : oneS s = (0, 0)) : (oneS s).1 = 0 ∧ (oneS s).2 = 0 := by rw [h]; exact ⟨rfl, rfl⟩

set_option maxHeartbeats 2000000 in
set_option maxRecDepth 100000 in
theorem element_any (bp : Nat) (s : ByteArray) (w : World) (h0 : 0 < s.size) (hs : s.size ≤ 1024) :
    Calls Tryd.prog 49 #[.pointer (some ⟨bp, 0, none⟩), .string s] w (EltPost w bp s) := by
  have HP := fun w => Lib.hid (Tryd.strings_HasPrefix s ⟨#[42, 42]⟩ w)
  have HO := fun w => Lib.hid (one_any s w (by unfold maxLen; omega))
  have HI := fun c w => Lib.hid (is_any bp c w)
  have HC := fun w => Lib.hid (class_any bp (s.extract 1 s.size) w (by simp; omega))
  rcases element_cases s h0 with ⟨hp, hz, he⟩ | ⟨hp, hc, he⟩ | ⟨hp, hc, he⟩ | ⟨hp, hc, he⟩ | ⟨hp, hc, he⟩ | ⟨hp, n1, n2, n3, n4, he⟩
  · have HE := Lib.hid he
    have HQ := Lib.hid hp
    clear he hp HO HI HC
    go_enter Tryd.func49, Tryd.ntmps49
    go_wp2_with fail
    refine ((HP _).out).mono ?_
    rintro e w1 ⟨rfl, hw1⟩
    obtain rfl := hw1.symm
    rw [HQ.out]
    go_wp2_with fail
    refine bodyPost_ret (results_row1 rfl _ _ w.heap.size 86 _ (0, 0) _ rfl (heap_alloc_new _ _) Tryd.underlying86 rfl (by kernel_rfl)) rfl ?_
    exact EltPost.of_some (x := .all) HE.out (by rw [List.length_drop, len_toList]; go_num) rfl rfl ((Ext.refl w).alloc _)
  · have HE := Lib.hid he
    have HQ := Lib.hid hp
    have q0 : ((s[0].toNat : Int) == 42) = true := by rw [hc]; rfl
    clear he hp HO HI HC hc
    go_enter Tryd.func49, Tryd.ntmps49
    go_wp2_with fail
    refine ((HP _).out).mono ?_
    rintro e w1 ⟨rfl, hw1⟩
    obtain rfl := hw1.symm
    rw [HQ.out]
    go_wp2_with fail
    refine bodyPost_ret (results_row1 rfl _ _ w.heap.size 86 _ (0, 0) _ rfl (heap_alloc_new _ _) Tryd.underlying86 rfl (by kernel_rfl)) rfl ?_
    exact EltPost.of_some (x := .some) HE.out (by rw [List.length_drop, len_toList]; go_num) rfl rfl ((Ext.refl w).alloc _)
  · have HE := Lib.hid he
    have HQ := Lib.hid hp
    have q0 : ((s[0].toNat : Int) == 42) = false := by rw [hc]; rfl
    have q1 : ((s[0].toNat : Int) == 63) = true := by rw [hc]; rfl
    clear he hp HO HI HC hc
    go_enter Tryd.func49, Tryd.ntmps49
    go_wp2_with fail
    refine ((HP _).out).mono ?_
    rintro e w1 ⟨rfl, hw1⟩
    obtain rfl := hw1.symm
    rw [HQ.out]
    go_wp2_with fail
    refine bodyPost_ret (results_row1 rfl _ _ w.heap.size 86 _ (0, 0) _ rfl (heap_alloc_new _ _) Tryd.underlying86 rfl (by kernel_rfl)) rfl ?_
    exact EltPost.of_some (x := .any) HE.out (by rw [List.length_drop, len_toList]; go_num) rfl rfl ((Ext.refl w).alloc _)
  · have HE := Lib.hid he
    have HQ := Lib.hid hp
    have q0 : ((s[0].toNat : Int) == 42) = false := by rw [hc]; rfl
    have q1 : ((s[0].toNat : Int) == 63) = false := by rw [hc]; rfl
    have q2 : ((s[0].toNat : Int) == 47) = true := by rw [hc]; rfl
    clear he hp HO HC hc
    go_enter Tryd.func49, Tryd.ntmps49
    go_wp2_with fail
    refine ((HP _).out).mono ?_
    rintro e w1 ⟨rfl, hw1⟩
    obtain rfl := hw1.symm
    rw [HQ.out]
    go_wp2_with fail
    refine ((HI 47 _).out).mono ?_
    rintro e w1 ⟨F, cap, rfl, hv, x1⟩
    have hb := first_block x1
    have HS := Lib.hid (gfn_stored (a := .func (.func F) #[] cap) (b := .bool false) x1 hv)
    have r0 : w1.cell? ⟨w.heap.size, 0, none⟩ = some .nilFunc := cell_of_block hb
    have r1 : w1.cell? ⟨w.heap.size, 1, none⟩ = some (.bool false) := cell_of_block hb
    have rf0 : w1.frozen? ⟨w.heap.size, 0, none⟩ = false := frozen_of_block hb
    have rf1 : w1.frozen? ⟨w.heap.size, 1, none⟩ = false := frozen_of_block hb
    have HB := Lib.hid hb
    clear hb hv x1
    go_wp2_with fail
    refine bodyPost_ret (results_row1 rfl _ _ w.heap.size 86 _ (0, 0) _ rfl (by exact heap_setCell_same _ _ _ _ _ _ (heap_setCell_same _ _ _ _ _ _ HB.out)) Tryd.underlying86 rfl (by kernel_rfl)) rfl ?_
    exact EltPost.of_some (x := .byt 47) HE.out (by rw [List.length_drop, len_toList]; go_num) rfl HS.out.1 HS.out.2
  · have HE := Lib.hid he
    have HQ := Lib.hid hp
    have q0 : ((s[0].toNat : Int) == 42) = false := by rw [hc]; rfl
    have q1 : ((s[0].toNat : Int) == 63) = false := by rw [hc]; rfl
    have q2 : ((s[0].toNat : Int) == 47) = false := by rw [hc]; rfl
    have q3 : ((s[0].toNat : Int) == 91) = true := by rw [hc]; rfl
    clear he hp HO HI hc
    go_enter Tryd.func49, Tryd.ntmps49
    go_wp2_with fail
    refine ((HP _).out).mono ?_
    rintro e w1 ⟨rfl, hw1⟩
    obtain rfl := hw1.symm
    rw [HQ.out]
    go_wp2_with fail
    refine ((HC _).out).mono ?_
    rintro e w1 ⟨⟨u, b, n, rfl, hu, hcl⟩, x1⟩
    rw [ext_toList] at hcl
    have hb := first_block x1
    have r0 : w1.cell? ⟨w.heap.size, 0, none⟩ = some .nilFunc := cell_of_block hb
    have r1 : w1.cell? ⟨w.heap.size, 1, none⟩ = some (.bool false) := cell_of_block hb
    have rf0 : w1.frozen? ⟨w.heap.size, 0, none⟩ = false := frozen_of_block hb
    have rf1 : w1.frozen? ⟨w.heap.size, 1, none⟩ = false := frozen_of_block hb
    have hlt : w.heap.size < w1.heap.size := lt_of_block hb
    have HB := Lib.hid hb
    clear hb
    have HX := Lib.hid x1
    clear x1
    have hes : (s.extract 1 s.size).size = s.size - 1 := by simp
    cases hq : classL (s.toList.drop 1) with
    | none =>
      rw [hq] at hcl
      obtain rfl : n = 0 := hcl
      have HF := Lib.hid (HE.out.trans hq)
      clear hq
      rcases hu with rfl | ⟨F, cap, rfl⟩
      · go_wp2_with fail
        refine bodyPost_ret (results_row1 rfl _ _ w.heap.size 86 _ (0, 0) _ rfl (by exact (((Ext.refl _).alloc _).block (by simpa using hlt)).trans (heap_setCell_same _ _ _ _ _ _ (heap_setCell_same _ _ _ _ _ _ HB.out))) Tryd.underlying86 rfl (by kernel_rfl)) rfl ?_
        exact EltPost.of_none HF.out (.inl rfl) (((((Ext.refl w).alloc _).trans HX.out).setCell (Nat.le_refl _) _ |>.setCell (Nat.le_refl _) _).alloc _)
      · go_wp2_with fail
        refine bodyPost_ret (results_row1 rfl _ _ w.heap.size 86 _ (0, 0) _ rfl (by exact (((Ext.refl _).alloc _).block (by simpa using hlt)).trans (heap_setCell_same _ _ _ _ _ _ (heap_setCell_same _ _ _ _ _ _ HB.out))) Tryd.underlying86 rfl (by kernel_rfl)) rfl ?_
        exact EltPost.of_none HF.out (.inl rfl) (((((Ext.refl w).alloc _).trans HX.out).setCell (Nat.le_refl _) _ |>.setCell (Nat.le_refl _) _).alloc _)
    | some y =>
      obtain ⟨x, r⟩ := y
      rw [hq] at hcl
      obtain ⟨rfl, rfl, hg⟩ := hcl
      obtain ⟨F, cap, rfl⟩ := gfn_shape hg
      have hr := classL_lt hq
      rw [List.length_drop, len_toList] at hr
      have HF := Lib.hid (HE.out.trans hq)
      rw [hes]
      obtain ⟨k, hk⟩ : ∃ k, k = s.size - 1 - r.length := ⟨_, rfl⟩
      rw [← hk]
      have hk0 : 0 < k := by omega
      have hk2 : k ≤ 1024 := by omega
      have HK := Lib.hid (show k + 1 = s.size - r.length from by omega)
      have n0 : ((k : Int) == 0) = false := beq_eq_false_iff_ne.2 (by omega)
      have HS := Lib.hid (gfn_stored (a := .func (.func F) #[] cap) (b := .bool x.many) HX.out hg)
      clear hq hg hk hr
      go_wp2_with fail
      refine bodyPost_ret (results_row1 rfl _ _ w.heap.size 86 _ (0, 0) _ rfl (by exact (((Ext.refl _).alloc _).block (by simpa using hlt)).trans (heap_setCell_same _ _ _ _ _ _ (heap_setCell_same _ _ _ _ _ _ HB.out))) Tryd.underlying86 rfl (by kernel_rfl)) rfl ?_
      exact EltPost.of_some (x := x) HF.out (by rw [← HK.out]; go_num) rfl (HS.out.1.keeps (((Ext.refl _).alloc _).keeps _)) (HS.out.2.alloc _)
  · have HQ := Lib.hid hp
    have q0 : ((s[0].toNat : Int) == 42) = false := toNat_ne n1
    have q1 : ((s[0].toNat : Int) == 63) = false := toNat_ne n2
    have q2 : ((s[0].toNat : Int) == 47) = false := toNat_ne n3
    have q3 : ((s[0].toNat : Int) == 91) = false := toNat_ne n4
    have key : ∃ c k, oneS s = (c, k) ∧ k ≤ s.size ∧ ((k = 0 ∧ elementL s.toList = none) ∨ elementL s.toList = some (.byt c, s.toList.drop k)) := by
      rcases one_cases s with ⟨h1, h2⟩ | ⟨c, k, h1, h2, h3, h4⟩
      · exact ⟨_, _, h1, by omega, .inl ⟨rfl, by rw [he, h2]⟩⟩
      · exact ⟨_, _, h1, by omega, .inr (by rw [he, h4])⟩
    obtain ⟨c, k, hck, hk, HE⟩ := key
    have HE := Lib.hid HE
    rw [hck] at HO
    have hI := HI c
    clear he hp HC n1 n2 n3 n4 hck HI
    simp only at HO
    go_enter Tryd.func49, Tryd.ntmps49
    go_wp2_with fail
    refine ((HP _).out).mono ?_
    rintro e w1 ⟨rfl, hw1⟩
    obtain rfl := hw1.symm
    rw [HQ.out]
    go_wp2_with fail
    refine ((HO _).out).mono ?_
    rintro e w1 ⟨rfl, hw1⟩
    obtain rfl := hw1.symm
    go_wp2_with fail
    refine ((hI _).out).mono ?_
    rintro e w1 ⟨F, cap, rfl, hv, x1⟩
    have hb := first_block x1
    have HS := Lib.hid (gfn_stored (a := .func (.func F) #[] cap) (b := .bool false) x1 hv)
    have r0 : w1.cell? ⟨w.heap.size, 0, none⟩ = some .nilFunc := cell_of_block hb
    have r1 : w1.cell? ⟨w.heap.size, 1, none⟩ = some (.bool false) := cell_of_block hb
    have rf0 : w1.frozen? ⟨w.heap.size, 0, none⟩ = false := frozen_of_block hb
    have rf1 : w1.frozen? ⟨w.heap.size, 1, none⟩ = false := frozen_of_block hb
    have HB := Lib.hid hb
    clear hb hv x1
    go_wp2_with fail
    refine bodyPost_ret (results_row1 rfl _ _ w.heap.size 86 _ (0, 0) _ rfl (by exact heap_setCell_same _ _ _ _ _ _ (heap_setCell_same _ _ _ _ _ _ HB.out)) Tryd.underlying86 rfl (by kernel_rfl)) rfl ?_
    rcases HE.out with ⟨rfl, hn⟩ | hs'
    · exact EltPost.of_none hn (.inr ⟨_, _, rfl⟩) HS.out.2
    · exact EltPost.of_some (x := .byt c) hs' (by rw [List.length_drop, len_toList, show s.size - (s.size - k) = k from by omega]) rfl HS.out.1 HS.out.2
end Go.Proofs.YtlabhbeacogfbaaDoor
