/- caravan/disk's New, Sync, Fuse, Used, Room, Pending. caravan/disk's Read, List, Paths. -/
import Derived.Test.YtldppmjjgljinaaGreatDoorDiskE
import Derived.Test.YtldppmjjgljinaaGreatDoorCells
namespace Go.Proofs.YtldppmjjgljinaaGreatDoor
open Go.RowKit

theorem New_bad (n : Int) (w : World) (h : n < 1024 ∨ 1048576 < n) :
    Calls Tryz.prog 41 #[.int .i64 n] w fun e w' => e = .returned (.tuple #[.pointer none, .int .i64 2]) ∧ w' = w := by
  rcases h with h | h
  · go_enter Tryz.func41, Tryz.ntmps41
    go_wp2_with fail
    go_ret2
    exact ⟨rfl, rfl⟩
  · have h2 : ¬ n < 1024 := by omega
    go_enter Tryz.func41, Tryz.ntmps41
    go_wp2_with fail
    go_ret2
    exact ⟨rfl, rfl⟩

theorem new_end {w W2 w3 : World} {room : Nat} (h2 : W2 = (w.alloc (.map #[] 0)).alloc (.cells #[.map (some w.heap.size), .int .i64 0, .int .i64 (room : Nat)] 144 (0, 0))) (t3 : TreeAt w3 (W2.heap.size + 1) W2.heap.size [] room) (x3 : Ext W2 w3) :
    ∃ M, DkAt (w3.alloc (.cells #[.pointer (some ⟨w.heap.size + 1, 0, none⟩), .pointer (some ⟨w.heap.size + 2 + 1, 0, none⟩), .slice none 0 0, .bool false, .int .i64 0] 109 (0, 0))) w3.heap.size M [] (Dk.made room) ∧
      Ext w (w3.alloc (.cells #[.pointer (some ⟨w.heap.size + 1, 0, none⟩), .pointer (some ⟨w.heap.size + 2 + 1, 0, none⟩), .slice none 0 0, .bool false, .int .i64 0] 109 (0, 0))) ∧ ∀ b ∈ M, w.heap.size ≤ b := by
  have hs : W2.heap.size = w.heap.size + 2 := by rw [h2, size_alloc, size_alloc]
  have x2 : Ext w W2 := by rw [h2]; exact ((Ext.refl w).alloc _).alloc _
  have t2 : TreeAt W2 (w.heap.size + 1) w.heap.size [] room := by rw [h2]; exact TreeAt.fresh w room
  have hx := x3.size
  have l3 := lt_of_tree t3
  rw [hs] at t3 l3
  refine ⟨_, ⟨w.heap.size + 1, w.heap.size, w.heap.size + 2 + 1, w.heap.size + 2, .slice none 0 0, [], ⟨block_alloc_new _ _, (t2.ext x3).ext ((Ext.refl _).alloc _), t3.ext ((Ext.refl _).alloc _), World.ownsRow_nil _ _ _ _, fun k v x h => (by simp at h), ?_, fun b hb => (by simp [Value.ownBlock] at hb), fun b hb => (by cases hb)⟩, rfl⟩, (x2.trans x3).alloc _, ?_⟩
  · simp only [List.nodup_cons, List.mem_cons, List.not_mem_nil, not_or, or_false, not_false_eq_true, List.nodup_nil, and_true]
    omega
  · intro b hb
    rcases List.mem_append.1 hb with hb | hb
    · simp only [List.mem_cons, List.not_mem_nil, or_false] at hb
      omega
    · have := mem_rowB.1 hb
      simp [Value.ownBlock] at this

set_option maxRecDepth 100000 in
set_option maxHeartbeats 2000000 in
theorem New_ok (room : Nat) (w : World) (h1 : 1024 ≤ room) (h2 : room ≤ 1048576) :
    Calls Tryz.prog 41 #[.int .i64 (room : Nat)] w fun e w' => ∃ d M, e = .returned (.tuple #[.pointer (some ⟨d, 0, none⟩), .int .i64 0]) ∧ DkAt w' d M [] (Dk.made room) ∧ Ext w w' ∧ ∀ b ∈ M, w.heap.size ≤ b := by
  have hmm := @run_makeMap Tryz.prog
  obtain ⟨W2, hW2⟩ : ∃ W2, W2 = (w.alloc (.map #[] 0)).alloc (.cells #[.map (some w.heap.size), .int .i64 0, .int .i64 (room : Nat)] 144 (0, 0)) := ⟨_, rfl⟩
  have HC := Lib.hid (dclone_any (w.heap.size + 1) w.heap.size [] room W2 (hW2 ▸ TreeAt.fresh w room))
  have HEnd := fun w3 t3 x3 => Lib.hid (new_end (w := w) (W2 := W2) (w3 := w3) (room := room) hW2 t3 x3)
  have hs : W2.heap.size = w.heap.size + 2 := by rw [hW2, size_alloc, size_alloc]
  rw [hs] at HC
  clear hs
  subst hW2
  go_enter Tryz.func41, Tryz.ntmps41
  go_wp2_with fail
  refine HC.out.mono ?_
  rintro e w3 ⟨rfl, t3, x3⟩
  have HE := HEnd w3 (by rw [size_alloc, size_alloc]; exact t3) x3
  clear t3 x3 HEnd hmm
  go_wp2_with fail
  go_ret2
  obtain ⟨M, h1, h2, h3⟩ := HE.out
  exact ⟨_, M, rfl, h1, h2, h3⟩

theorem fuse_end {w : World} {d lt lm st sm : Nat} {lg : Value} {vs : List Value} {I : List Nat} {D : Dk} {n : Int} (h : DkIn w d lt lm st sm lg vs I D) :
    ∃ M' I', DkAt ((w.setCell ⟨d, 3, none⟩ (.bool true)).setCell ⟨d, 4, none⟩ (.int .i64 n)) d M' I' { D with fused := true, left := n } ∧ DkStep w ([d, lt, lm, st, sm] ++ rowB lg) I ((w.setCell ⟨d, 3, none⟩ (.bool true)).setCell ⟨d, 4, none⟩ (.int .i64 n)) M' I' := by
  have hnd := h.nd
  simp only [List.nodup_cons, List.mem_cons, List.not_mem_nil, not_or, or_false] at hnd
  obtain ⟨⟨n1, n2, n3, n4⟩, _⟩ := hnd
  have keyN : ∀ b, b ≠ d → ((w.setCell ⟨d, 3, none⟩ (.bool true)).setCell ⟨d, 4, none⟩ (.int .i64 n)).heap[b]? = w.heap[b]? := fun b hb => (setCellO hb).trans (setCellO hb)
  refine ⟨_, I, ⟨lt, lm, st, sm, lg, vs, ⟨?_, h.live.kept (keyN lt (Ne.symm n1)) (keyN lm (Ne.symm n2)), h.lasts.kept (keyN st (Ne.symm n3)) (keyN sm (Ne.symm n4)), owns_blocks h.log fun b hb => keyN b fun e => h.lgne b hb (by simp [e]), fun k v y h1 h2 => ?_, h.nd, h.lgne, fun b hb => ?_⟩, rfl⟩, ⟨?_, Sub.refl _ _, Sub.refl _ _⟩⟩
  · rw [setCellB (setCellB h.blk)]; rfl
  · obtain ⟨h3, h4⟩ := h.effs k v y h1 h2
    exact ⟨h3.turn (fun _ hb => hb) fun b hb hl => keyN b fun e => (h.imm b hb).1 (by simp [e]), h4⟩
  · exact ⟨(h.imm b hb).1, (h.imm b hb).2.1, by have := (h.imm b hb).2.2; simpa using this⟩
  · exact (Chg.setCell w ⟨d, 3, none⟩ _ (by simp)).trans (Chg.setCell _ ⟨d, 4, none⟩ _ (by simp)) fun b hb => .inl hb

set_option maxRecDepth 100000 in
set_option maxHeartbeats 2000000 in
theorem Fuse_any {w : World} {d : Nat} {M I : List Nat} {D : Dk} (h : DkAt w d M I D) (n : Int) :
    Calls Tryz.prog 66 #[.pointer (some ⟨d, 0, none⟩), .int .i64 n] w (ActPost w d M I (D.fuse n)) := by
  have HR := Lib.hid (show D.fuse n = if n < 0 then (2, D) else if D.off then (20, D) else (0, { D with fused := true, left := n }) from rfl)
  have HD := Lib.hid h
  obtain ⟨lt, lm, st, sm, lg, vs, h, hM⟩ := h
  have hb := h.blk
  have c0 : w.cell? ⟨d, 0, none⟩ = some (.pointer (some ⟨lt, 0, none⟩)) := cellB hb
  have c3 : w.cell? ⟨d, 3, none⟩ = some (.bool D.fused) := cellB hb
  have c4 : w.cell? ⟨d, 4, none⟩ = some (.int .i64 D.left) := cellB hb
  have f3 : w.frozen? ⟨d, 3, none⟩ = false := frozenB hb
  have f4 : (w.setCell ⟨d, 3, none⟩ (.bool true)).frozen? ⟨d, 4, none⟩ = false := frozenB (setCellB hb)
  have c5 : (w.setCell ⟨d, 3, none⟩ (.bool true)).cell? ⟨d, 4, none⟩ = some (.int .i64 D.left) := cellB (setCellB hb)
  have H1 := Lib.hid (dis_any d _ w c0)
  have H2 := Lib.hid (show Calls Tryz.prog 34 #[.pointer (some ⟨d, 0, none⟩)] w fun e w' => e = .returned (.bool D.off) ∧ w' = w from doff_at d _ D.fused D.left w c0 c3 c4)
  have HEnd := Lib.hid (fuse_end (n := n) h)
  have HM := Lib.hid hM
  clear h hM hb
  generalize hRR : D.fuse n = R at *
  clear hRR
  by_cases hn : n < 0
  · have HR2 := Lib.hid (HR.out.trans (if_pos hn))
    go_enter Tryz.func66, Tryz.ntmps66
    go_wp2_with fail
    refine H1.out.mono ?_
    rintro e w1 ⟨rfl, hw1⟩
    obtain rfl := hw1.symm
    clear hw1
    go_wp2_with fail
    go_ret
    exact ActPost.still HD.out (Ext.refl _) HR2.out
  · have HR2 := Lib.hid (HR.out.trans (if_neg hn))
    cases hoff : D.off with
    | true =>
      have HR3 := Lib.hid (HR2.out.trans (if_pos hoff))
      rw [hoff] at H2
      go_enter Tryz.func66, Tryz.ntmps66
      go_wp2_with fail
      refine H1.out.mono ?_
      rintro e w1 ⟨rfl, hw1⟩
      obtain rfl := hw1.symm
      clear hw1
      go_wp2_with fail
      refine H2.out.mono ?_
      rintro e w1 ⟨rfl, hw1⟩
      obtain rfl := hw1.symm
      clear hw1
      go_wp2_with fail
      go_ret
      exact ActPost.still HD.out (Ext.refl _) HR3.out
    | false =>
      have HR3 := Lib.hid (HR2.out.trans (if_neg (by rw [hoff]; decide)))
      rw [hoff] at H2
      go_enter Tryz.func66, Tryz.ntmps66
      go_wp2_with fail
      refine H1.out.mono ?_
      rintro e w1 ⟨rfl, hw1⟩
      obtain rfl := hw1.symm
      clear hw1
      go_wp2_with fail
      refine H2.out.mono ?_
      rintro e w1 ⟨rfl, hw1⟩
      obtain rfl := hw1.symm
      clear hw1
      go_wp2_with fail
      go_ret
      rw [HR3.out, HM.out]
      exact ⟨rfl, HEnd.out⟩

/-- Sync: the log was empty. -/
theorem sync_still {w : World} {d lt lm st sm : Nat} {lg : Value} {vs : List Value} {I : List Nat} {D : Dk} (h : DkIn w d lt lm st sm lg vs I D) (hl : D.log = []) (hs : D.lasts = D.live) :
    ∃ M' I', DkAt (w.setCell ⟨d, 4, none⟩ (.int .i64 (D.left - 1))) d M' I' { D with lasts := D.live, log := [], left := D.left - 1 } ∧ DkStep w ([d, lt, lm, st, sm] ++ rowB lg) I (w.setCell ⟨d, 4, none⟩ (.int .i64 (D.left - 1))) M' I' := by
  have hnd := h.nd
  simp only [List.nodup_cons, List.mem_cons, List.not_mem_nil, not_or, or_false] at hnd
  obtain ⟨⟨n1, n2, n3, n4⟩, _⟩ := hnd
  have keyN : ∀ b, b ≠ d → (w.setCell ⟨d, 4, none⟩ (.int .i64 (D.left - 1))).heap[b]? = w.heap[b]? := fun b hb => setCellO hb
  have hl0 := h.log
  rw [hl] at hl0
  refine ⟨_, I, ⟨lt, lm, st, sm, lg, vs, ⟨?_, h.live.kept (keyN lt (Ne.symm n1)) (keyN lm (Ne.symm n2)), ?_, owns_blocks hl0 fun b hb => keyN b fun e => h.lgne b hb (by simp [e]), fun k v y h1 h2 => (by simp at h2), h.nd, h.lgne, fun b hb => ?_⟩, rfl⟩, ⟨?_, Sub.refl _ _, Sub.refl _ _⟩⟩
  · rw [setCellB h.blk]; rfl
  · have := h.lasts.kept (keyN st (Ne.symm n3)) (keyN sm (Ne.symm n4))
    rw [hs] at this
    exact this
  · exact ⟨(h.imm b hb).1, (h.imm b hb).2.1, by have := (h.imm b hb).2.2; simpa using this⟩
  · exact Chg.setCell w ⟨d, 4, none⟩ _ (by simp)
/-- Sync: what lives lasts. -/
theorem sync_end {w w3 : World} {d lt lm st sm : Nat} {lg : Value} {vs : List Value} {I : List Nat} {D : Dk} (h : DkIn w d lt lm st sm lg vs I D) (t3 : TreeAt w3 (w.heap.size + 1) w.heap.size D.live D.room) (x3 : Ext (w.setCell ⟨d, 4, none⟩ (.int .i64 (D.left - 1))) w3) :
    ∃ M' I', DkAt ((w3.setCell ⟨d, 1, none⟩ (.pointer (some ⟨w.heap.size + 1, 0, none⟩))).setCell ⟨d, 2, none⟩ (.slice none 0 0)) d M' I' { D with lasts := D.live, log := [], left := D.left - 1 } ∧
      DkStep w ([d, lt, lm, st, sm] ++ rowB lg) I ((w3.setCell ⟨d, 1, none⟩ (.pointer (some ⟨w.heap.size + 1, 0, none⟩))).setCell ⟨d, 2, none⟩ (.slice none 0 0)) M' I' := by
  have hnd := h.nd
  simp only [List.nodup_cons, List.mem_cons, List.not_mem_nil, not_or, or_false] at hnd
  obtain ⟨⟨n1, n2, n3, n4⟩, ⟨n9, n5, n6⟩, ⟨n7, n8⟩, _⟩ := hnd
  have hdl := ltB h.blk
  have hsz : w.heap.size ≤ w3.heap.size := by have := x3.size; simpa using this
  have l1 := lt_of_tree h.live
  have l3 := lt_of_tree t3
  have key3 : ∀ b, b < w.heap.size → b ≠ d → w3.heap[b]? = w.heap[b]? := fun b hb hn => (x3.block (by simpa using hb)).trans (setCellO hn)
  have keyN : ∀ b, b ≠ d → ((w3.setCell ⟨d, 1, none⟩ (.pointer (some ⟨w.heap.size + 1, 0, none⟩))).setCell ⟨d, 2, none⟩ (.slice none 0 0)).heap[b]? = w3.heap[b]? := fun b hb => (setCellO hb).trans (setCellO hb)
  have b3 : w3.heap[d]? = some (.cells #[.pointer (some ⟨lt, 0, none⟩), .pointer (some ⟨st, 0, none⟩), lg, .bool D.fused, .int .i64 (D.left - 1)] 109 (0, 0)) := (x3.block (by simpa using hdl)).trans (setCellB h.blk)
  refine ⟨[d, lt, lm, w.heap.size + 1, w.heap.size] ++ rowB (.slice none 0 0), I, ⟨lt, lm, w.heap.size + 1, w.heap.size, .slice none 0 0, [], ⟨?_, ?_, ?_, World.ownsRow_nil _ _ _ _, fun k v y h1 h2 => (by simp at h1), ?_, fun b hb => (by simp [Value.ownBlock] at hb), fun b hb => ?_⟩, rfl⟩, ⟨?_, fun b hb => ?_, Sub.refl _ _⟩⟩
  · rw [setCellB (setCellB b3)]; rfl
  · exact (h.live.kept (key3 lt l1.1 (Ne.symm n1)) (key3 lm l1.2 (Ne.symm n2))).kept (keyN lt (Ne.symm n1)) (keyN lm (Ne.symm n2))
  · exact t3.kept (keyN _ (by omega)) (keyN _ (by omega))
  · simp only [List.nodup_cons, List.mem_cons, List.not_mem_nil, not_or, or_false, not_false_eq_true, List.nodup_nil, and_true]
    omega
  · have hi := h.imm b hb
    have hb2 := hi.2.2
    simp only [List.mem_cons, List.not_mem_nil, not_or, or_false] at hi
    refine ⟨by simp only [List.mem_cons, List.not_mem_nil, not_or, or_false]; exact ⟨hi.1.1, hi.1.2.1, hi.1.2.2.1, by omega, by omega⟩, by simp [Value.ownBlock], by simp; omega⟩
  · have c1 := Chg.setCell w ⟨d, 4, none⟩ (.int .i64 (D.left - 1)) (F := [d, lt, lm, st, sm] ++ rowB lg) (by simp)
    have c2 := c1.trans_ext x3
    have c3 := c2.trans (Chg.setCell (F := [d]) w3 ⟨d, 1, none⟩ (.pointer (some ⟨w.heap.size + 1, 0, none⟩)) (by simp)) fun b hb => .inl (by simp at hb; simp [hb])
    exact c3.trans (Chg.setCell (F := [d]) _ ⟨d, 2, none⟩ (.slice none 0 0) (by simp)) fun b hb => .inl (by simp at hb; simp [hb])
  · rcases List.mem_append.1 hb with hb | hb
    · simp only [List.mem_cons, List.not_mem_nil, or_false] at hb
      rcases hb with rfl | rfl | rfl | rfl | rfl
      · exact .inl (by simp)
      · exact .inl (by simp)
      · exact .inl (by simp)
      · exact .inr (by omega)
      · exact .inr (by omega)
    · have := mem_rowB.1 hb
      simp [Value.ownBlock] at this

set_option maxRecDepth 100000 in
set_option maxHeartbeats 2000000 in
theorem Sync_any {w : World} {d : Nat} {M I : List Nat} {D : Dk} (h : DkAt w d M I D) (O : DkFit D) :
    Calls Tryz.prog 36 #[.pointer (some ⟨d, 0, none⟩)] w (ActPost w d M I D.sync) := by
  have HR := Lib.hid (show D.sync = if D.off then (20, D) else (0, { D with lasts := D.live, log := [], left := D.left - 1 }) from rfl)
  have HD := Lib.hid h
  obtain ⟨lt, lm, st, sm, lg, vs, h, hM⟩ := h
  have hb := h.blk
  have c0 : w.cell? ⟨d, 0, none⟩ = some (.pointer (some ⟨lt, 0, none⟩)) := cellB hb
  have c3 : w.cell? ⟨d, 3, none⟩ = some (.bool D.fused) := cellB hb
  have c4 : w.cell? ⟨d, 4, none⟩ = some (.int .i64 D.left) := cellB hb
  have f4 : w.frozen? ⟨d, 4, none⟩ = false := frozenB hb
  have H1 := Lib.hid (dis_any d _ w c0)
  have H2 := Lib.hid (show Calls Tryz.prog 34 #[.pointer (some ⟨d, 0, none⟩)] w fun e w' => e = .returned (.bool D.off) ∧ w' = w from doff_at d _ D.fused D.left w c0 c3 c4)
  have HM := Lib.hid hM
  have hlo := O.lo
  have hhi := O.hi
  have hlen := O.len
  have hdl := ltB hb
  have hb4 : (w.setCell ⟨d, 4, none⟩ (.int .i64 (D.left - 1))).heap[d]? = some (.cells #[.pointer (some ⟨lt, 0, none⟩), .pointer (some ⟨st, 0, none⟩), lg, .bool D.fused, .int .i64 (D.left - 1)] 109 (0, 0)) := setCellB hb
  have e0 : (w.setCell ⟨d, 4, none⟩ (.int .i64 (D.left - 1))).cell? ⟨d, 0, none⟩ = some (.pointer (some ⟨lt, 0, none⟩)) := cellB hb4
  obtain ⟨ad, cap, hlg⟩ : ∃ ad cap, lg = .slice ad D.log.length cap := by
    rcases h.log.2 with ⟨h1, h2⟩ | ⟨g, cap, cur, h1, _⟩
    · exact ⟨none, 0, by rw [h1, h2]⟩
    · exact ⟨_, cap, h1⟩
  have e2 : (w.setCell ⟨d, 4, none⟩ (.int .i64 (D.left - 1))).cell? ⟨d, 2, none⟩ = some (.slice ad D.log.length cap) := by rw [← hlg]; exact cellB hb4
  have HT := Lib.hid (show TreeAt (w.setCell ⟨d, 4, none⟩ (.int .i64 (D.left - 1))) lt lm D.live D.room from by
    have hnd := h.nd
    simp only [List.nodup_cons, List.mem_cons, List.not_mem_nil, not_or, or_false] at hnd
    exact h.live.kept (setCellO (Ne.symm hnd.1.1)) (setCellO (Ne.symm hnd.1.2.1)))
  have HC := Lib.hid (dclone_any lt lm D.live D.room _ HT.out)
  have hss : (w.setCell ⟨d, 4, none⟩ (.int .i64 (D.left - 1))).heap.size = w.heap.size := by simp
  rw [hss] at HC
  have HS := Lib.hid (fun hl => sync_still h hl (O.ok.same hl))
  have HEnd := fun w3 t3 x3 => Lib.hid (sync_end (w3 := w3) h t3 x3)
  have HB4 := Lib.hid hb4
  have HLen := Lib.hid (show D.log.length = 0 → D.log = [] from List.length_eq_zero_iff.1)
  clear h hM hb hb4 hss O hlg HT
  generalize hRR : D.sync = R at *
  clear hRR
  cases hoff : D.off with
  | true =>
    have HR3 := Lib.hid (HR.out.trans (if_pos hoff))
    rw [hoff] at H2
    go_enter Tryz.func36, Tryz.ntmps36
    go_wp2_with fail
    refine H1.out.mono ?_
    rintro e w1 ⟨rfl, hw1⟩
    obtain rfl := hw1.symm
    clear hw1
    go_wp2_with fail
    refine H2.out.mono ?_
    rintro e w1 ⟨rfl, hw1⟩
    obtain rfl := hw1.symm
    clear hw1
    go_wp2_with fail
    go_ret
    exact ActPost.still HD.out (Ext.refl _) HR3.out
  | false =>
    have HR3 := Lib.hid (HR.out.trans (if_neg (by rw [hoff]; decide)))
    rw [hoff] at H2
    rcases Nat.eq_zero_or_pos D.log.length with hl0 | hl0
    · have HS2 := HS.out (HLen.out hl0)
      have HSx := Lib.hid HS2
      rw [hl0] at e2
      clear HS2 HS HEnd
      go_enter Tryz.func36, Tryz.ntmps36
      go_wp2_with fail
      refine H1.out.mono ?_
      rintro e w1 ⟨rfl, hw1⟩
      obtain rfl := hw1.symm
      clear hw1
      go_wp2_with fail
      refine H2.out.mono ?_
      rintro e w1 ⟨rfl, hw1⟩
      obtain rfl := hw1.symm
      clear hw1
      go_wp2_with fail
      go_ret
      rw [HR3.out, HM.out]
      exact ⟨rfl, HSx.out⟩
    · go_enter Tryz.func36, Tryz.ntmps36
      go_wp2_with fail
      refine H1.out.mono ?_
      rintro e w1 ⟨rfl, hw1⟩
      obtain rfl := hw1.symm
      clear hw1
      go_wp2_with fail
      refine H2.out.mono ?_
      rintro e w1 ⟨rfl, hw1⟩
      obtain rfl := hw1.symm
      clear hw1
      go_wp2_with fail
      refine HC.out.mono ?_
      rintro e w3 ⟨rfl, t3, x3⟩
      have hb3 : w3.heap[d]? = some (.cells #[.pointer (some ⟨lt, 0, none⟩), .pointer (some ⟨st, 0, none⟩), lg, .bool D.fused, .int .i64 (D.left - 1)] 109 (0, 0)) := (x3.block (by simpa using hdl)).trans HB4.out
      have k1 : w3.cell? ⟨d, 1, none⟩ = some (.pointer (some ⟨st, 0, none⟩)) := cellB hb3
      have g1 : w3.frozen? ⟨d, 1, none⟩ = false := frozenB hb3
      have hb5 : (w3.setCell ⟨d, 1, none⟩ (.pointer (some ⟨w.heap.size + 1, 0, none⟩))).heap[d]? = some (.cells #[.pointer (some ⟨lt, 0, none⟩), .pointer (some ⟨w.heap.size + 1, 0, none⟩), lg, .bool D.fused, .int .i64 (D.left - 1)] 109 (0, 0)) := setCellB hb3
      have k2 : (w3.setCell ⟨d, 1, none⟩ (.pointer (some ⟨w.heap.size + 1, 0, none⟩))).cell? ⟨d, 2, none⟩ = some lg := cellB hb5
      have g2 : (w3.setCell ⟨d, 1, none⟩ (.pointer (some ⟨w.heap.size + 1, 0, none⟩))).frozen? ⟨d, 2, none⟩ = false := frozenB hb5
      have HF := HEnd w3 t3 x3
      clear t3 x3 hb3 hb5 HEnd
      go_wp2_with fail
      go_ret
      rw [HR3.out, HM.out]
      exact ⟨rfl, HF.out⟩

theorem Used_any {w : World} {d : Nat} {M I : List Nat} {D : Dk} (h : DkAt w d M I D) : Calls Tryz.prog 32 #[.pointer (some ⟨d, 0, none⟩)] w fun e w' => e = .returned (.int .i64 (usedL D.live : Nat)) ∧ w' = w := by
  obtain ⟨lt, lm, st, sm, lg, vs, h, hM⟩ := h
  have c0 : w.cell? ⟨d, 0, none⟩ = some (.pointer (some ⟨lt, 0, none⟩)) := cellB h.blk
  have c1 : w.cell? ⟨lt, 1, none⟩ = some (.int .i64 (usedL D.live : Nat)) := cellB h.live.blk
  have H1 := Lib.hid (dis_any d _ w c0)
  clear h hM
  go_enter Tryz.func32, Tryz.ntmps32
  go_wp2_with fail
  refine H1.out.mono ?_
  rintro e w1 ⟨rfl, hw1⟩
  obtain rfl := hw1.symm
  clear hw1
  go_wp2_with fail
  go_ret
  exact ⟨rfl, rfl⟩
theorem Room_any {w : World} {d : Nat} {M I : List Nat} {D : Dk} (h : DkAt w d M I D) : Calls Tryz.prog 33 #[.pointer (some ⟨d, 0, none⟩)] w fun e w' => e = .returned (.int .i64 (D.room : Nat)) ∧ w' = w := by
  obtain ⟨lt, lm, st, sm, lg, vs, h, hM⟩ := h
  have c0 : w.cell? ⟨d, 0, none⟩ = some (.pointer (some ⟨lt, 0, none⟩)) := cellB h.blk
  have c1 : w.cell? ⟨lt, 2, none⟩ = some (.int .i64 (D.room : Nat)) := cellB h.live.blk
  have H1 := Lib.hid (dis_any d _ w c0)
  clear h hM
  go_enter Tryz.func33, Tryz.ntmps33
  go_wp2_with fail
  refine H1.out.mono ?_
  rintro e w1 ⟨rfl, hw1⟩
  obtain rfl := hw1.symm
  clear hw1
  go_wp2_with fail
  go_ret
  exact ⟨rfl, rfl⟩
theorem Pending_any {w : World} {d : Nat} {M I : List Nat} {D : Dk} (h : DkAt w d M I D) (O : DkFit D) : Calls Tryz.prog 37 #[.pointer (some ⟨d, 0, none⟩)] w fun e w' => e = .returned (.int .i64 (D.log.length : Nat)) ∧ w' = w := by
  obtain ⟨lt, lm, st, sm, lg, vs, h, hM⟩ := h
  have c0 : w.cell? ⟨d, 0, none⟩ = some (.pointer (some ⟨lt, 0, none⟩)) := cellB h.blk
  have hlen := O.len
  obtain ⟨ad, cap, rfl⟩ : ∃ ad cap, lg = .slice ad D.log.length cap := by
    rcases h.log.2 with ⟨h1, h2⟩ | ⟨g, cap, cur, h1, _⟩
    · exact ⟨none, 0, by rw [h1, h2]⟩
    · exact ⟨_, cap, h1⟩
  have c2 : w.cell? ⟨d, 2, none⟩ = some (.slice ad D.log.length cap) := cellB h.blk
  have H1 := Lib.hid (dis_any d _ w c0)
  clear h hM O
  go_enter Tryz.func37, Tryz.ntmps37
  go_wp2_with fail
  refine H1.out.mono ?_
  rintro e w1 ⟨rfl, hw1⟩
  obtain rfl := hw1.symm
  clear hw1
  go_wp2_with fail
  go_ret
  exact ⟨rfl, rfl⟩
end Go.Proofs.YtldppmjjgljinaaGreatDoor

namespace Go.Proofs.YtldppmjjgljinaaGreatDoor
open Go.RowKit
open Go.Sort (Holds)
open Go.Maps (has_true_of_atKey)

/-- What Read tells. -/
def readE (l : Nodes) (p : ByteArray) : Nd × Int := if mayB p then (match findA l p with | some n => (n, 0) | none => (nd0, 5)) else (nd0, 10)
theorem ret_node {w : World} {fn : Func} {p u : Tmp} (h : fn.results = #[.cell p 57, .tmp u]) (tmps : Array Value) (g : Nat) (k tm : Int) (d e : ByteArray) (hp : tmps.getD p undef = .pointer (some ⟨g, 0, none⟩)) (hg : w.heap[g]? = some (.cells #[.int .i64 k, .string d, .string e, .int .i64 tm] 57 (0, 0))) :
    (results fn tmps).run Tryz.prog w = .ok (.tuple #[.agg #[.int .i64 k, .string d, .string e, .int .i64 tm], tmps.getD u undef]) w :=
  results_row1 h tmps w g 57 _ (0, 0) _ hp hg Tryz.underlying57 rfl (by kernel_rfl)

theorem set4 {w : World} {g : Nat} {a b c d a' b' c' d' : Value} {t : TypeId} (h : w.heap[g]? = some (.cells #[a, b, c, d] t (0, 0))) :
    ((((w.setCell ⟨g, 0, none⟩ a').setCell ⟨g, 1, none⟩ b').setCell ⟨g, 2, none⟩ c').setCell ⟨g, 3, none⟩ d').heap[g]? = some (.cells #[a', b', c', d'] t (0, 0)) := by
  rw [setCellB (setCellB (setCellB (setCellB h)))]; rfl
theorem set4_alloc {w : World} {o : Obj} {g : Nat} {a b c d a' b' c' d' : Value} {t : TypeId} (h : w.heap[g]? = some (.cells #[a, b, c, d] t (0, 0))) :
    (((((w.setCell ⟨g, 0, none⟩ a').setCell ⟨g, 1, none⟩ b').setCell ⟨g, 2, none⟩ c').setCell ⟨g, 3, none⟩ d').alloc o).heap[g]? = some (.cells #[a', b', c', d'] t (0, 0)) :=
  (block_alloc_old (ltB (set4 h))).trans (set4 h)
theorem set4_ext {w0 w : World} {g : Nat} {a' b' c' d' : Value} (x : Ext w0 w) (h : w0.heap.size ≤ g) : Ext w0 ((((w.setCell ⟨g, 0, none⟩ a').setCell ⟨g, 1, none⟩ b').setCell ⟨g, 2, none⟩ c').setCell ⟨g, 3, none⟩ d') :=
  (((x.setCell h _).setCell h _).setCell h _).setCell h _

set_option maxRecDepth 100000 in
set_option maxHeartbeats 2000000 in
theorem Read_any {w : World} {d : Nat} {M I : List Nat} {D : Dk} (h : DkAt w d M I D) (E : Env w) (p : ByteArray) (hp : p.size < 4294967281) :
    Calls Tryz.prog 29 #[.pointer (some ⟨d, 0, none⟩), .string p] w fun e w' => e = .returned (.tuple #[nv (readE D.live p).1, .int .i64 (readE D.live p).2]) ∧ Ext w w' := by
  have HR := Lib.hid (show readE D.live p = if mayB p then (match findA D.live p with | some n => (n, (0 : Int)) | none => (nd0, 5)) else (nd0, 10) from rfl)
  obtain ⟨lt, lm, st, sm, lg, vs, h, hM⟩ := h
  obtain ⟨W1, hW1⟩ : ∃ W1, W1 = w.alloc (.cells #[.int .i64 0, .string ⟨#[]⟩, .string ⟨#[]⟩, .int .i64 0] 57 (0, 0)) := ⟨_, rfl⟩
  have x1 : Ext w W1 := hW1 ▸ (Ext.refl w).alloc _
  have hb1 := (x1.block (ltB h.blk)).trans h.blk
  have c0 : W1.cell? ⟨d, 0, none⟩ = some (.pointer (some ⟨lt, 0, none⟩)) := cellB hb1
  have H1 := Lib.hid (dis_any d _ W1 c0)
  have H2 := Lib.hid (may_any p W1 hp (E.ext x1))
  have HX := Lib.hid x1
  have HI := Lib.hid h
  have HB := Lib.hid (show W1.heap[w.heap.size]? = some (.cells #[.int .i64 0, .string ⟨#[]⟩, .string ⟨#[]⟩, .int .i64 0] 57 (0, 0)) from by rw [hW1]; exact block_alloc_new _ _)
  have hp2 : p.size ≤ maxLen := by unfold maxLen; omega
  have hdl := ltB h.blk
  clear h hM x1 hb1 c0 E
  subst hW1
  generalize readE D.live p = R at *
  cases hm : mayB p with
  | false =>
    have HR2 := Lib.hid (show R = (nd0, 10) from by rw [HR.out, hm]; rfl)
    rw [hm] at H2
    go_enter Tryz.func29, Tryz.ntmps29
    go_wp2_with fail
    refine H1.out.mono ?_
    rintro e w1 ⟨rfl, hw1⟩
    obtain rfl := hw1.symm
    clear hw1
    go_wp2_with fail
    refine H2.out.mono ?_
    rintro e w2 ⟨rfl, x2⟩
    have hb2 := (x2.block (ltB HB.out)).trans HB.out
    have b0 : w2.cell? ⟨w.heap.size, 0, none⟩ = some (.int .i64 0) := cellB hb2
    have b1 : w2.cell? ⟨w.heap.size, 1, none⟩ = some (.string ⟨#[]⟩) := cellB hb2
    have b2 : w2.cell? ⟨w.heap.size, 2, none⟩ = some (.string ⟨#[]⟩) := cellB hb2
    have b3 : w2.cell? ⟨w.heap.size, 3, none⟩ = some (.int .i64 0) := cellB hb2
    have g0 : ∀ k, w2.frozen? ⟨w.heap.size, k, none⟩ = false := fun k => frozenB hb2
    have HX2 := Lib.hid (HX.out.trans x2)
    have HB2 := Lib.hid hb2
    clear x2 hb2
    go_wp2_with fail
    rw [HR2.out]
    exact bodyPost_ret (ret_node rfl _ w.heap.size 0 0 ⟨#[]⟩ ⟨#[]⟩ rfl (set4 HB2.out)) rfl ⟨rfl, set4_ext HX2.out (Nat.le_refl _)⟩
  | true =>
    rw [hm] at H2
    cases hf : findA D.live p with
    | none =>
      have HR2 := Lib.hid (show R = (nd0, 5) from by rw [HR.out, hm, hf]; rfl)
      go_enter Tryz.func29, Tryz.ntmps29
      go_wp2_with fail
      refine H1.out.mono ?_
      rintro e w1 ⟨rfl, hw1⟩
      obtain rfl := hw1.symm
      clear hw1
      go_wp2_with fail
      refine H2.out.mono ?_
      rintro e w2 ⟨rfl, x2⟩
      have hb2 := (x2.block (ltB HB.out)).trans HB.out
      have x02 := HX.out.trans x2
      have t2 := HI.out.live.ext x02
      have bd := (x02.block hdl).trans HI.out.blk
      have a0 : w2.cell? ⟨d, 0, none⟩ = some (.pointer (some ⟨lt, 0, none⟩)) := cellB bd
      have a1 : w2.cell? ⟨lt, 0, none⟩ = some (.map (some lm)) := cellB t2.blk
      have L := t2.map.look_ok p hp2
      rw [hf] at L
      have L2 : (Instr.lookup 142 (.map (some lm)) (.string p) true).run Tryz.prog w2 = .ok (.tuple #[.agg #[.int .i64 0, .string ⟨#[]⟩, .string ⟨#[]⟩, .int .i64 0], .bool false]) w2 := L
      have b0 : w2.cell? ⟨w.heap.size, 0, none⟩ = some (.int .i64 0) := cellB hb2
      have b1 : w2.cell? ⟨w.heap.size, 1, none⟩ = some (.string ⟨#[]⟩) := cellB hb2
      have b2 : w2.cell? ⟨w.heap.size, 2, none⟩ = some (.string ⟨#[]⟩) := cellB hb2
      have b3 : w2.cell? ⟨w.heap.size, 3, none⟩ = some (.int .i64 0) := cellB hb2
      have g0 : ∀ k, w2.frozen? ⟨w.heap.size, k, none⟩ = false := fun k => frozenB hb2
      have hlt : w.heap.size < w2.heap.size := ltB hb2
      have HX3 := Lib.hid x02
      have HB3 := Lib.hid hb2
      clear L x2 hb2 x02 t2 bd hf
      go_wp2_with fail
      rw [HR2.out]
      exact bodyPost_ret (ret_node rfl _ w.heap.size 0 0 ⟨#[]⟩ ⟨#[]⟩ rfl (set4_alloc HB3.out)) rfl ⟨rfl, (set4_ext HX3.out (Nat.le_refl _)).alloc _⟩
    | some n =>
      obtain ⟨k7, d7, g7, t7⟩ := n
      have HR2 := Lib.hid (show R = (⟨k7, d7, g7, t7⟩, 0) from by rw [HR.out, hm, hf]; rfl)
      go_enter Tryz.func29, Tryz.ntmps29
      go_wp2_with fail
      refine H1.out.mono ?_
      rintro e w1 ⟨rfl, hw1⟩
      obtain rfl := hw1.symm
      clear hw1
      go_wp2_with fail
      refine H2.out.mono ?_
      rintro e w2 ⟨rfl, x2⟩
      have hb2 := (x2.block (ltB HB.out)).trans HB.out
      have x02 := HX.out.trans x2
      have t2 := HI.out.live.ext x02
      have bd := (x02.block hdl).trans HI.out.blk
      have a0 : w2.cell? ⟨d, 0, none⟩ = some (.pointer (some ⟨lt, 0, none⟩)) := cellB bd
      have a1 : w2.cell? ⟨lt, 0, none⟩ = some (.map (some lm)) := cellB t2.blk
      have L := t2.map.look_ok p hp2
      rw [hf] at L
      have L2 : (Instr.lookup 142 (.map (some lm)) (.string p) true).run Tryz.prog w2 = .ok (.tuple #[.agg #[.int .i64 k7, .string d7, .string g7, .int .i64 t7], .bool true]) w2 := L
      have b0 : w2.cell? ⟨w.heap.size, 0, none⟩ = some (.int .i64 0) := cellB hb2
      have b1 : w2.cell? ⟨w.heap.size, 1, none⟩ = some (.string ⟨#[]⟩) := cellB hb2
      have b2 : w2.cell? ⟨w.heap.size, 2, none⟩ = some (.string ⟨#[]⟩) := cellB hb2
      have b3 : w2.cell? ⟨w.heap.size, 3, none⟩ = some (.int .i64 0) := cellB hb2
      have g0 : ∀ k, w2.frozen? ⟨w.heap.size, k, none⟩ = false := fun k => frozenB hb2
      have hlt : w.heap.size < w2.heap.size := ltB hb2
      have HX3 := Lib.hid x02
      have HB3 := Lib.hid hb2
      clear L x2 hb2 x02 t2 bd hf
      go_wp2_with fail
      rw [HR2.out]
      exact bodyPost_ret (ret_node rfl _ w.heap.size k7 t7 d7 g7 rfl (set4_alloc HB3.out)) rfl ⟨rfl, (set4_ext HX3.out (Nat.le_refl _)).alloc _⟩
end Go.Proofs.YtldppmjjgljinaaGreatDoor
