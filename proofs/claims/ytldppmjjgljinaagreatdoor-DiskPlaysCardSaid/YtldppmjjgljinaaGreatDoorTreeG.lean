/- caravan/disk's write, add, lay, remove: walks. What a move goes through, in plain words: which paths, in which order. -/
import Derived.Test.YtldppmjjgljinaaGreatDoorTreeD
namespace Go.Proofs.YtldppmjjgljinaaGreatDoor
open Go.RowKit

theorem TreeOk.nz {l : Nodes} {room : Nat} (T : TreeOk l room) : ∀ q n, findA l q = some n → n.kind ≠ 0 := fun q n h => by
  have := T.kind (q, n) (findA_mem h)
  simp only at this
  omega
theorem writeE_first (l : Nodes) (room : Nat) (p d : ByteArray) (t : Int) : writeE l room p d t = if firstE (homeE l p) (fileE l p) = 0 then putE l room p ⟨1, d, emp, t⟩ else (firstE (homeE l p) (fileE l p), l) := by
  unfold writeE firstE
  by_cases h : homeE l p = 0
  · rw [if_pos h, if_pos h]
  · rw [if_neg h, if_neg h, if_neg h]
theorem Chg.from_ext {F : List Nat} {a b c : World} (x : Ext a b) (k : Chg F b c) : Chg F a c := (x.chg F).trans k (fun _ hx => .inl hx)

set_option maxRecDepth 100000 in
set_option maxHeartbeats 2000000 in
theorem dwrite_any (t m : Nat) (l : Nodes) (room : Nat) (p d : ByteArray) (tm : Int) (w : World) (E : Env w) (T : TreeAt w t m l room) (O : TreeOk l room) (hr : room ≤ 1048576) (hp : p.size ≤ 160) (hd : d.size ≤ 1073741824) :
    Calls Tryz.prog 126 #[.pointer (some ⟨t, 0, none⟩), .string p, .string d, .int .i64 tm] w
      fun e w' => e = .returned (.int .i64 (writeE l room p d tm).1) ∧ TreeAt w' t m (writeE l room p d tm).2 room ∧ Chg [t, m] w w' := by
  have HE := Lib.hid (writeE_first l room p d tm)
  have H1 := Lib.hid (dhome_any t m l room p w E T (by omega) O.nz)
  have H2 := fun w T => Lib.hid (dfile_any t m l room p w T (by unfold maxLen; omega))
  have H3 := fun a b g w h0 h1 => Lib.hid (dfirst_any a b g w h0 h1)
  have H4 := fun w T => Lib.hid (dput_any t m l room p 1 tm d ⟨#[]⟩ w T O.sorted (by unfold maxLen; omega) (by have := O.used; omega) hd hr)
  have HEm := Lib.hid (show (⟨#[]⟩ : ByteArray) = emp from rfl)
  have HT := Lib.hid T
  clear T O E
  generalize writeE l room p d tm = R at *
  have HP := Lib.hid (show putE l room p ⟨1, d, emp, tm⟩ = putE l room p ⟨1, d, ⟨#[]⟩, tm⟩ from rfl)
  rw [HP.out] at HE
  clear HP HEm
  generalize putE l room p ⟨1, d, ⟨#[]⟩, tm⟩ = P at *
  generalize homeE l p = h at *
  generalize fileE l p = f at *
  cases hF : decide (firstE h f = 0) with
  | true =>
    have hF0 : firstE h f = 0 := of_decide_eq_true hF
    have HR := Lib.hid (show R = P from by rw [HE.out, if_pos hF0])
    have HF0 := Lib.hid hF0
    clear HE hF hF0
    go_enter Tryz.func126, Tryz.ntmps126
    go_wp2_with fail
    refine H1.out.mono ?_
    rintro e w1 ⟨rfl, x1⟩
    go_wp2_with fail
    refine (H2 _ (HT.out.ext x1)).out.mono ?_
    rintro e w2 ⟨rfl, x2⟩
    go_wp2_with fail
    refine (H3 h f w2.heap.size _ (by rw [cell_alloc_new rfl]; rfl) (by rw [cell_alloc_new rfl]; rfl)).out.mono ?_
    rintro e w3 ⟨rfl, hw3⟩
    have x3 : Ext w w3 := hw3 ▸ (x1.trans x2).alloc _
    have HX3 := Lib.hid x3
    have hf0 := HF0.out
    clear x1 x2 hw3 x3
    generalize firstE h f = F at *
    subst hf0
    go_wp2_with fail
    refine (H4 _ (HT.out.ext HX3.out)).out.mono ?_
    rintro e w4 ⟨rfl, t4, x4⟩
    have HT4 := Lib.hid t4
    have HX4 := Lib.hid (Chg.from_ext HX3.out x4)
    clear t4 x4
    go_wp2_with fail
    go_ret
    rw [HR.out]
    exact ⟨rfl, HT4.out, HX4.out⟩
  | false =>
    have hF0 : ¬ firstE h f = 0 := of_decide_eq_false hF
    have HR := Lib.hid (show R = (firstE h f, l) from by rw [HE.out, if_neg hF0])
    have HF0 := Lib.hid (show (firstE h f == 0) = false ∧ (firstE h f != 0) = true from by simpa using hF0)
    clear HE hF hF0
    go_enter Tryz.func126, Tryz.ntmps126
    go_wp2_with fail
    refine H1.out.mono ?_
    rintro e w1 ⟨rfl, x1⟩
    go_wp2_with fail
    refine (H2 _ (HT.out.ext x1)).out.mono ?_
    rintro e w2 ⟨rfl, x2⟩
    go_wp2_with fail
    refine (H3 h f w2.heap.size _ (by rw [cell_alloc_new rfl]; rfl) (by rw [cell_alloc_new rfl]; rfl)).out.mono ?_
    rintro e w3 ⟨rfl, hw3⟩
    have x3 : Ext w w3 := hw3 ▸ (x1.trans x2).alloc _
    have HX3 := Lib.hid x3
    obtain ⟨f0, f1⟩ := HF0.out
    clear x1 x2 hw3 x3 HF0
    generalize firstE h f = F at *
    go_wp2_with fail
    go_ret
    rw [HR.out]
    exact ⟨rfl, HT.out.ext HX3.out, HX3.out.chg _⟩

set_option maxRecDepth 100000 in
set_option maxHeartbeats 2000000 in
theorem dlay_any (t m : Nat) (l : Nodes) (room : Nat) (p : ByteArray) (k tm : Int) (d g : ByteArray) (w : World) (E : Env w) (T : TreeAt w t m l room) (O : TreeOk l room) (hr : room ≤ 1048576) (hp : p.size ≤ 160) (hd : d.size ≤ 1073741824) :
    Calls Tryz.prog 124 #[.pointer (some ⟨t, 0, none⟩), .string p, .agg #[.int .i64 k, .string d, .string g, .int .i64 tm]] w
      fun e w' => e = .returned (.int .i64 (layE l room p ⟨k, d, g, tm⟩).1) ∧ TreeAt w' t m (layE l room p ⟨k, d, g, tm⟩).2 room ∧ Chg [t, m] w w' := by
  have HE := Lib.hid (show layE l room p ⟨k, d, g, tm⟩ = if homeE l p = 0 then (if (findA l p).isSome then (6, l) else putE l room p ⟨k, d, g, tm⟩) else (homeE l p, l) from rfl)
  obtain ⟨W1, hW1⟩ : ∃ W1, W1 = w.alloc (.cells #[.int .i64 k, .string d, .string g, .int .i64 tm] 57 (0, 0)) := ⟨_, rfl⟩
  have X1 : Ext w W1 := hW1 ▸ (Ext.refl w).alloc _
  have HB := Lib.hid (show W1.heap[w.heap.size]? = some (.cells #[.int .i64 k, .string d, .string g, .int .i64 tm] 57 (0, 0)) by rw [hW1]; exact block_alloc_new _ _)
  have H1 := Lib.hid (dhome_any t m l room p W1 (E.ext X1) (T.ext X1) (by omega) O.nz)
  have H4 := fun w T => Lib.hid (dput_any t m l room p k tm d g w T O.sorted (by unfold maxLen; omega) (by have := O.used; omega) hd hr)
  have HT := Lib.hid (T.ext X1)
  have HX1 := Lib.hid X1
  have hp2 : p.size ≤ maxLen := by unfold maxLen; omega
  clear T O E X1
  subst hW1
  generalize layE l room p ⟨k, d, g, tm⟩ = R at *
  generalize putE l room p ⟨k, d, g, tm⟩ = P at *
  generalize homeE l p = h at *
  by_cases hh : h = 0
  · have HE := Lib.hid (HE.out.trans (if_pos hh))
    subst hh
    cases hf : findA l p with
    | none =>
      have HR := Lib.hid (show R = P from by rw [HE.out, hf]; rfl)
      go_enter Tryz.func124, Tryz.ntmps124
      go_wp2_with fail
      refine H1.out.mono ?_
      rintro e W2 ⟨rfl, x2⟩
      have T2 := HT.out.ext x2
      have L := T2.map.look_ok p hp2
      rw [hf] at L
      have L2 : (Instr.lookup 142 (.map (some m)) (.string p) true).run Tryz.prog W2 = .ok (.tuple #[.agg #[.int .i64 0, .string ⟨#[]⟩, .string ⟨#[]⟩, .int .i64 0], .bool false]) W2 := L
      have c0 : W2.cell? ⟨t, 0, none⟩ = some (.map (some m)) := cellB T2.blk
      have hb2 := (x2.block (ltB HB.out)).trans HB.out
      have b0 : W2.cell? ⟨w.heap.size, 0, none⟩ = some (.int .i64 k) := cellB hb2
      have b1 : W2.cell? ⟨w.heap.size, 1, none⟩ = some (.string d) := cellB hb2
      have b2 : W2.cell? ⟨w.heap.size, 2, none⟩ = some (.string g) := cellB hb2
      have b3 : W2.cell? ⟨w.heap.size, 3, none⟩ = some (.int .i64 tm) := cellB hb2
      have bl := ltB hb2
      have x3 := (HX1.out.trans x2).alloc (.cells #[.int .i64 0, .string ⟨#[]⟩, .string ⟨#[]⟩, .int .i64 0] 57 (0, 0))
      have HX3 := Lib.hid x3
      have HT3 := Lib.hid (T2.ext ((Ext.refl W2).alloc (.cells #[.int .i64 0, .string ⟨#[]⟩, .string ⟨#[]⟩, .int .i64 0] 57 (0, 0))))
      clear L x2 x3 T2 hb2 HE hf H1
      go_wp2_with fail
      refine (H4 _ HT3.out).out.mono ?_
      rintro e w4 ⟨rfl, t4, x4⟩
      have HT4 := Lib.hid t4
      have HX4 := Lib.hid (Chg.from_ext HX3.out x4)
      clear t4 x4
      go_wp2_with fail
      go_ret
      rw [HR.out]
      exact ⟨rfl, HT4.out, HX4.out⟩
    | some o =>
      have HR := Lib.hid (show R = (6, l) from by rw [HE.out, hf]; rfl)
      obtain ⟨k1, d1, g1, tm1⟩ := o
      go_enter Tryz.func124, Tryz.ntmps124
      go_wp2_with fail
      refine H1.out.mono ?_
      rintro e W2 ⟨rfl, x2⟩
      have T2 := HT.out.ext x2
      have L := T2.map.look_ok p hp2
      rw [hf] at L
      have L2 : (Instr.lookup 142 (.map (some m)) (.string p) true).run Tryz.prog W2 = .ok (.tuple #[.agg #[.int .i64 k1, .string d1, .string g1, .int .i64 tm1], .bool true]) W2 := L
      have c0 : W2.cell? ⟨t, 0, none⟩ = some (.map (some m)) := cellB T2.blk
      have x3 := (HX1.out.trans x2).alloc (.cells #[.int .i64 k1, .string d1, .string g1, .int .i64 tm1] 57 (0, 0))
      have HX3 := Lib.hid x3
      have HT3 := Lib.hid (T2.ext ((Ext.refl W2).alloc (.cells #[.int .i64 k1, .string d1, .string g1, .int .i64 tm1] 57 (0, 0))))
      clear L x2 x3 T2 HE hf H1
      go_wp2_with fail
      go_ret
      rw [HR.out]
      exact ⟨rfl, HT3.out, HX3.out.chg _⟩
  · have HR := Lib.hid (HE.out.trans (if_neg hh))
    have h1 : (h == 0) = false := by simpa using hh
    have h2 : (h != 0) = true := by simpa using hh
    clear hh
    go_enter Tryz.func124, Tryz.ntmps124
    go_wp2_with fail
    refine H1.out.mono ?_
    rintro e W2 ⟨rfl, x2⟩
    have HT2 := Lib.hid (HT.out.ext x2)
    have HX2 := Lib.hid (HX1.out.trans x2)
    clear x2
    go_wp2_with fail
    go_ret
    rw [HR.out]
    exact ⟨rfl, HT2.out, HX2.out.chg _⟩

set_option maxRecDepth 100000 in
set_option maxHeartbeats 2000000 in
theorem dadd_any (t m : Nat) (l : Nodes) (room : Nat) (p a : ByteArray) (w : World) (T : TreeAt w t m l room) (O : TreeOk l room) (hr : room ≤ 1048576) (hp : p.size ≤ 160) (hd : a.size ≤ 1048576) :
    Calls Tryz.prog 129 #[.pointer (some ⟨t, 0, none⟩), .string p, .string a] w
      fun e w' => e = .returned (.int .i64 (addE l room p a).1) ∧ TreeAt w' t m (addE l room p a).2 room ∧ Chg [t, m] w w' := by
  have hp2 : p.size ≤ maxLen := by unfold maxLen; omega
  have L := T.map.look_ok p hp2
  have c0 : w.cell? ⟨t, 0, none⟩ = some (.map (some m)) := cellB T.blk
  have HE := Lib.hid (show addE l room p a = match findA l p with | none => (5, l) | some n => if fileE l p = 0 then putE l room p ⟨n.kind, n.data ++ a, n.target, n.time⟩ else (fileE l p, l) from rfl)
  have HT := Lib.hid T
  cases hf : findA l p with
  | none =>
    rw [hf] at L
    have L2 : (Instr.lookup 142 (.map (some m)) (.string p) true).run Tryz.prog w = .ok (.tuple #[.agg #[.int .i64 0, .string ⟨#[]⟩, .string ⟨#[]⟩, .int .i64 0], .bool false]) w := L
    have HR := Lib.hid (show addE l room p a = (5, l) from by rw [HE.out, hf])
    clear L HE hf T
    generalize addE l room p a = R at *
    go_enter Tryz.func129, Tryz.ntmps129
    go_wp2_with fail
    go_ret
    rw [HR.out]
    have x : Ext w (w.alloc (.cells #[.int .i64 0, .string ⟨#[]⟩, .string ⟨#[]⟩, .int .i64 0] 57)) := (Ext.refl w).alloc _
    exact ⟨rfl, HT.out.ext x, x.chg _⟩
  | some n =>
    have hmu := mem_used (findA_mem hf)
    have hu := O.used
    obtain ⟨k, d, g, tm⟩ := n
    have hds : d.size ≤ 1048576 := by simp only at hmu; omega
    rw [hf] at L
    have L2 : (Instr.lookup 142 (.map (some m)) (.string p) true).run Tryz.prog w = .ok (.tuple #[.agg #[.int .i64 k, .string d, .string g, .int .i64 tm], .bool true]) w := L
    have HE := Lib.hid (show addE l room p a = if fileE l p = 0 then putE l room p ⟨k, d ++ a, g, tm⟩ else (fileE l p, l) from by rw [HE.out, hf])
    have hsz : (d ++ a).size = d.size + a.size := by simp
    have H4 := fun w T => Lib.hid (dput_any t m l room p k tm (d ++ a) g w T O.sorted (by unfold maxLen; omega) (by omega) (by omega) hr)
    have H2 := fun w T => Lib.hid (dfile_any t m l room p w T (by unfold maxLen; omega))
    obtain ⟨W1, hW1⟩ : ∃ W1, W1 = w.alloc (.cells #[.int .i64 k, .string d, .string g, .int .i64 tm] 57 (0, 0)) := ⟨_, rfl⟩
    have X1 : Ext w W1 := hW1 ▸ (Ext.refl w).alloc _
    have HB := Lib.hid (show W1.heap[w.heap.size]? = some (.cells #[.int .i64 k, .string d, .string g, .int .i64 tm] 57 (0, 0)) by rw [hW1]; exact block_alloc_new _ _)
    have HX1 := Lib.hid X1
    have HT1 := Lib.hid (T.ext X1)
    have hlt := lt_of_tree T
    clear L hf O T X1 hmu hu hsz
    subst hW1
    generalize addE l room p a = R at *
    generalize putE l room p ⟨k, d ++ a, g, tm⟩ = P at *
    generalize fileE l p = f at *
    by_cases hh : f = 0
    · have HR := Lib.hid (HE.out.trans (if_pos hh))
      subst hh
      clear HE
      go_enter Tryz.func129, Tryz.ntmps129
      go_wp2_with fail
      refine (H2 _ HT1.out).out.mono ?_
      rintro e W2 ⟨rfl, x2⟩
      have hb2 := (x2.block (ltB HB.out)).trans HB.out
      have b0 : W2.cell? ⟨w.heap.size, 0, none⟩ = some (.int .i64 k) := cellB hb2
      have b1 : W2.cell? ⟨w.heap.size, 1, none⟩ = some (.string d) := cellB hb2
      have b2 : W2.cell? ⟨w.heap.size, 2, none⟩ = some (.string g) := cellB hb2
      have b3 : W2.cell? ⟨w.heap.size, 3, none⟩ = some (.int .i64 tm) := cellB hb2
      have f1 : W2.frozen? ⟨w.heap.size, 1, none⟩ = false := frozenB hb2
      have x3 : Ext w (W2.setCell ⟨w.heap.size, 1, none⟩ (.string (d ++ a))) := (HX1.out.trans x2).setCell (Nat.le_refl _) _
      have HX3 := Lib.hid x3
      have HT3 := Lib.hid (HT.out.ext x3)
      clear x2 hb2 x3
      go_wp2_with fail
      refine (H4 _ HT3.out).out.mono ?_
      rintro e w4 ⟨rfl, t4, x4⟩
      have HT4 := Lib.hid t4
      have HX4 := Lib.hid (Chg.from_ext HX3.out x4)
      clear t4 x4
      go_wp2_with fail
      go_ret
      rw [HR.out]
      exact ⟨rfl, HT4.out, HX4.out⟩
    · have HR := Lib.hid (HE.out.trans (if_neg hh))
      have h1 : (f == 0) = false := by simpa using hh
      have h2 : (f != 0) = true := by simpa using hh
      clear hh HE
      go_enter Tryz.func129, Tryz.ntmps129
      go_wp2_with fail
      refine (H2 _ HT1.out).out.mono ?_
      rintro e W2 ⟨rfl, x2⟩
      have HT2 := Lib.hid (HT1.out.ext x2)
      have HX2 := Lib.hid (HX1.out.trans x2)
      clear x2
      go_wp2_with fail
      go_ret
      rw [HR.out]
      exact ⟨rfl, HT2.out, HX2.out.chg _⟩

theorem withins_any {l : Nodes} {p : ByteArray} : (withinsS l p).length = 0 ↔ (l.any fun x => withinB x.1 p) = false := by
  unfold withinsS
  rw [List.length_map, List.length_mergeSort, List.length_eq_zero_iff]
  unfold insideL
  rw [List.filter_eq_nil_iff, List.any_eq_false]
  constructor
  · intro h x hx
    exact h _ (List.mem_map.2 ⟨x, hx, rfl⟩)
  · intro h k hk
    obtain ⟨x, hx, rfl⟩ := List.mem_map.1 hk
    exact h x hx
set_option maxRecDepth 100000 in
set_option maxHeartbeats 2000000 in
theorem dremove_any (t m : Nat) (l : Nodes) (room : Nat) (p : ByteArray) (w : World) (E : Env w) (T : TreeAt w t m l room) (O : TreeOk l room) (hr : room ≤ 1048576) (hp : p.size ≤ 160) :
    Calls Tryz.prog 143 #[.pointer (some ⟨t, 0, none⟩), .string p] w
      fun e w' => e = .returned (.int .i64 (removeE l p).1) ∧ TreeAt w' t m (removeE l p).2 room ∧ Chg [t, m] w w' := by
  have hp2 : p.size ≤ maxLen := by unfold maxLen; omega
  have L := T.map.look_ok p hp2
  have c0 : w.cell? ⟨t, 0, none⟩ = some (.map (some m)) := cellB T.blk
  have HE := Lib.hid (show removeE l p = if (findA l p).isSome then (if l.any fun x => withinB x.1 p then (22, l) else (0, dropA l p)) else (5, l) from rfl)
  have HT := Lib.hid T
  have hu := O.used
  have hlen := len_used l
  cases hf : findA l p with
  | none =>
    rw [hf] at L
    have L2 : (Instr.lookup 142 (.map (some m)) (.string p) true).run Tryz.prog w = .ok (.tuple #[.agg #[.int .i64 0, .string ⟨#[]⟩, .string ⟨#[]⟩, .int .i64 0], .bool false]) w := L
    have HR := Lib.hid (show removeE l p = (5, l) from by rw [HE.out, hf]; rfl)
    clear L HE hf T
    generalize removeE l p = R at *
    go_enter Tryz.func143, Tryz.ntmps143
    go_wp2_with fail
    go_ret
    rw [HR.out]
    have x : Ext w (w.alloc (.cells #[.int .i64 0, .string ⟨#[]⟩, .string ⟨#[]⟩, .int .i64 0] 57)) := (Ext.refl w).alloc _
    exact ⟨rfl, HT.out.ext x, x.chg _⟩
  | some n =>
    obtain ⟨k, d, g, tm⟩ := n
    rw [hf] at L
    have L2 : (Instr.lookup 142 (.map (some m)) (.string p) true).run Tryz.prog w = .ok (.tuple #[.agg #[.int .i64 k, .string d, .string g, .int .i64 tm], .bool true]) w := L
    have HE := Lib.hid (show removeE l p = if (l.any fun x => withinB x.1 p) = true then (22, l) else (0, dropA l p) from by rw [HE.out, hf]; rfl)
    have H2 := fun w E T => Lib.hid (dwithin_any t m l room p w E T (by omega) (by omega) fun x hx => mayB_size (O.may x hx))
    have H4 := fun w T => Lib.hid (ddrop_any t m l room p w T O.sorted (by unfold maxLen; omega) (by omega))
    have x1 : Ext w (w.alloc (.cells #[.int .i64 k, .string d, .string g, .int .i64 tm] 57 (0, 0))) := (Ext.refl w).alloc _
    have HX1 := Lib.hid x1
    have HT1 := Lib.hid (T.ext x1)
    have HE1 := Lib.hid (E.ext x1)
    have HWI := Lib.hid (withins_any (l := l) (p := p))
    clear L hf O T x1 hu hlen
    generalize removeE l p = R at *
    generalize (l.any fun x => withinB x.1 p) = b at *
    generalize withinsS l p = ws at *
    go_enter Tryz.func143, Tryz.ntmps143
    go_wp2_with fail
    refine (H2 _ HE1.out HT1.out).out.mono ?_
    rintro e W2 ⟨v, rfl, hown, x2⟩
    have HT2 := Lib.hid (HT1.out.ext x2)
    have HX2 := Lib.hid (HX1.out.trans x2)
    obtain ⟨cap, a, rfl, hcap⟩ : ∃ (cap : Nat) (a : Option Addr), v = .slice a ws.length cap ∧ ws.length ≤ 9223372036854775807 := by
      rcases hown.2 with ⟨rfl, h0⟩ | ⟨g', cap, cur, rfl, _, _, h1, h2, _⟩
      · have : ws.length = 0 := by simpa using h0
        exact ⟨0, none, by rw [this], by omega⟩
      · exact ⟨cap, _, rfl, by unfold maxLen at h2; omega⟩
    clear hown x2 H2
    cases b with
    | true =>
      have hl : 0 < ws.length := by
        rcases Nat.eq_zero_or_pos ws.length with h | h
        · have := HWI.out.1 h; cases this
        · exact h
      have HR := Lib.hid (HE.out.trans (if_pos rfl))
      clear HE
      go_wp2_with fail
      go_ret
      rw [HR.out]
      exact ⟨rfl, HT2.out, HX2.out.chg _⟩
    | false =>
      have hl : ws.length = 0 := HWI.out.2 rfl
      have HR := Lib.hid (HE.out.trans (if_neg (by decide)))
      rw [hl]
      clear HE
      go_wp2_with fail
      refine (H4 _ HT2.out).out.mono ?_
      rintro e w4 ⟨rfl, t4, x4⟩
      have HT4 := Lib.hid t4
      have HX4 := Lib.hid (Chg.from_ext HX2.out x4)
      clear t4 x4
      go_wp2_with fail
      go_ret
      rw [HR.out]
      exact ⟨rfl, HT4.out, HX4.out⟩
end Go.Proofs.YtldppmjjgljinaaGreatDoor

namespace Go.Proofs.YtldppmjjgljinaaGreatDoor
open Go.RowKit

theorem withinsS_perm (l : Nodes) (a : ByteArray) : (withinsS l a).Perm ((l.filter fun x => withinB x.1 a).map (·.1)) := by
  unfold withinsS
  refine ((List.mergeSort_perm _ _).map bsL).trans ?_
  have : (insideL a (keysD l)).map bsL = (l.filter fun x => withinB x.1 a).map (·.1) := by
    unfold insideL keysD
    rw [List.filter_map, List.map_map]
    rfl
  rw [this]
theorem withinsS_mem {l : Nodes} {a k : ByteArray} : k ∈ withinsS l a ↔ withinB k a = true ∧ k ∈ l.map (·.1) := by
  rw [(withinsS_perm l a).mem_iff, List.mem_map]
  constructor
  · rintro ⟨x, hx, rfl⟩
    obtain ⟨h1, h2⟩ := List.mem_filter.1 hx
    exact ⟨h2, List.mem_map.2 ⟨x, h1, rfl⟩⟩
  · rintro ⟨h1, h2⟩
    obtain ⟨x, hx, rfl⟩ := List.mem_map.1 h2
    exact ⟨x, List.mem_filter.2 ⟨hx, h1⟩, rfl⟩
theorem withinsS_nodup {l : Nodes} (h : (l.map (·.1)).Nodup) (a : ByteArray) : (withinsS l a).Nodup :=
  (withinsS_perm l a).nodup_iff.2 ((List.Sublist.map _ (List.filter_sublist)).nodup h)
theorem within_self (a : ByteArray) (ha : mayB a = true) : withinB a a = false := by
  cases h : withinB a a with
  | false => rfl
  | true =>
    obtain ⟨r, hr⟩ := within_form ha h
    have := congrArg List.length hr
    simp at this
/-- The paths that are moved, in the order in which they are. -/
def orderM (l : Nodes) (a : ByteArray) : List ByteArray := withinsS l a ++ [a]
def pairsM (l : Nodes) (a : ByteArray) : Nodes := (orderM l a).map fun k => (k, (findA l k).getD nd0)
theorem pairsM_perm {l : Nodes} {room : Nat} {a b : ByteArray} (M : MoveOk l room a b) : (pairsM l a).Perm (movL l a) := by
  have hn := M.tree.sorted.nodup
  have h1 : (orderM l a).Perm ((movL l a).map (·.1)) := by
    refine (List.perm_ext_iff_of_nodup ?_ ((List.Sublist.map _ (List.filter_sublist)).nodup hn)).2 fun k => ?_
    · unfold orderM
      rw [List.nodup_append]
      refine ⟨withinsS_nodup hn a, by simp, fun x hx y hy e => ?_⟩
      simp at hy
      subst hy
      subst e
      have := (withinsS_mem.1 hx).1
      rw [within_self x M.ma] at this
      cases this
    · unfold orderM
      rw [List.mem_append, withinsS_mem, List.mem_singleton]
      constructor
      · rintro (⟨h1, h2⟩ | rfl)
        · obtain ⟨x, hx, rfl⟩ := List.mem_map.1 h2
          exact List.mem_map.2 ⟨x, mem_mov.2 ⟨hx, by unfold movedB; rw [h1]; simp⟩, rfl⟩
        · obtain ⟨o, ho⟩ := Option.isSome_iff_exists.1 M.is
          exact List.mem_map.2 ⟨(k, o), mem_mov.2 ⟨findA_mem ho, by unfold movedB; simp⟩, rfl⟩
      · intro hk
        obtain ⟨x, hx, rfl⟩ := List.mem_map.1 hk
        obtain ⟨h1, h2⟩ := mem_mov.1 hx
        unfold movedB at h2
        simp only [Bool.or_eq_true, decide_eq_true_eq] at h2
        rcases h2 with h2 | h2
        · exact .inr h2
        · exact .inl ⟨h2, List.mem_map.2 ⟨x, h1, rfl⟩⟩
  have h2 := h1.map fun k => (k, (findA l k).getD nd0)
  refine h2.trans ?_
  rw [List.map_map]
  have : (movL l a).map ((fun k => (k, (findA l k).getD nd0)) ∘ (·.1)) = (movL l a).map id := by
    refine List.map_congr_left fun x hx => ?_
    have := findA_of_mem hn (mem_mov.1 hx).1
    simp only [Function.comp, this, Option.getD_some, id]
  rw [this, List.map_id]
/-- Behind k rounds. -/
def MovedTo (l : Nodes) (a b : ByteArray) (k : Nat) (cur : Nodes) : Prop := cur.Perm (((pairsM l a).take k).map (newX a b) ++ ((pairsM l a).drop k ++ restL l a b))
theorem moved_start {l : Nodes} {room : Nat} {a b : ByteArray} (M : MoveOk l room a b) : MovedTo l a b 0 (dropA l b) := by
  unfold MovedTo
  simp only [List.take_zero, List.map_nil, List.nil_append, List.drop_zero]
  refine List.Perm.trans ?_ ((pairsM_perm M).symm.append_right _)
  have h := List.filter_append_perm (fun x : ByteArray × Nd => movedB a x.1) (dropA l b)
  have : (dropA l b).filter (fun x => movedB a x.1) = movL l a := by
    unfold dropA movL
    rw [List.filter_filter]
    refine List.filter_congr fun x hx => ?_
    cases hm : movedB a x.1 with
    | false => rfl
    | true =>
      have : x.1 ≠ b := fun e => by rw [e, M.notb] at hm; cases hm
      simpa using this
  rw [this] at h
  exact h.symm
theorem moved_step {l : Nodes} {room : Nat} {a b : ByteArray} (M : MoveOk l room a b) {k : Nat} {p : ByteArray} {cur : Nodes} (hp : (orderM l a)[k]? = some p) (h : MovedTo l a b k cur) :
    ∃ n, findA cur p = some n ∧ findA l p = some n ∧ MovedTo l a b (k + 1) (stepM a b cur p) := by
  have hx : (pairsM l a)[k]? = some (p, (findA l p).getD nd0) := by unfold pairsM; rw [List.getElem?_map, hp]; rfl
  have hd : (pairsM l a).drop k = (p, (findA l p).getD nd0) :: (pairsM l a).drop (k + 1) := by
    obtain ⟨h1, h2⟩ := List.getElem?_eq_some_iff.1 hx
    rw [List.drop_eq_getElem_cons h1, h2]
  have ht : (pairsM l a).take (k + 1) = (pairsM l a).take k ++ [(p, (findA l p).getD nd0)] := by rw [List.take_add_one, hx]; rfl
  unfold MovedTo at h ⊢
  rw [hd] at h
  have hs := M.step (P := (pairsM l a).take k) (x := (p, (findA l p).getD nd0)) (R := (pairsM l a).drop (k + 1)) (by rw [← hd, List.take_append_drop]; exact pairsM_perm M) h
  rw [ht]
  have hm : (p, (findA l p).getD nd0) ∈ movL l a := (pairsM_perm M).mem_iff.1 (List.mem_of_getElem? hx)
  refine ⟨_, hs.1, ?_, hs.2⟩
  exact findA_of_mem M.tree.sorted.nodup (mem_mov.1 hm).1
theorem moved_end {l : Nodes} {room : Nat} {a b : ByteArray} (M : MoveOk l room a b) {cur : Nodes} {k : Nat} (hk : k = (orderM l a).length) (h : MovedTo l a b k cur) : cur.Perm (moveL l a b) := by
  have hl : (pairsM l a).length = k := by unfold pairsM; rw [List.length_map, hk]
  unfold MovedTo at h
  rw [← hl, List.take_length, List.drop_length, List.nil_append] at h
  exact (h.trans (((pairsM_perm M).map _).append_right _)).trans M.perm.symm
theorem moved_used {l : Nodes} {room : Nat} {a b : ByteArray} (M : MoveOk l room a b) {cur : Nodes} {k : Nat} (h : MovedTo l a b k cur) : usedL cur = usedL (dropA l b) := by
  have h0 := moved_start M
  unfold MovedTo at h h0
  rw [usedL_perm h, usedL_perm h0]
  simp only [usedL_append, usedL_map, List.take_zero, List.map_nil, List.drop_zero]
  have : usedL ((pairsM l a).take k) + usedL ((pairsM l a).drop k) = usedL (pairsM l a) := by rw [← usedL_append, List.take_append_drop]
  show _ = 0 + _
  omega
theorem moved_keys {l : Nodes} {room : Nat} {a b : ByteArray} (M : MoveOk l room a b) {cur : Nodes} {k : Nat} (h : MovedTo l a b k cur) : cur.length ≤ l.length := by
  have h0 := (moved_start M).length_eq
  have h1 := h.length_eq
  have : cur.length = (dropA l b).length := by
    rw [h0, h1]
    simp only [List.length_append, List.length_map, List.length_take, List.length_drop]
    omega
  rw [this]
  exact List.length_filter_le _ _
/-- Whether all goals may be, asked path by path. -/
theorem all_within {l : Nodes} {a b : ByteArray} : (l.all fun x => !withinB x.1 a || mayB (newP a b x.1)) = (withinsS l a).all fun k => mayB (newP a b k) := by
  rw [Bool.eq_iff_iff, List.all_eq_true, List.all_eq_true]
  constructor
  · intro h k hk
    obtain ⟨h1, h2⟩ := withinsS_mem.1 hk
    obtain ⟨x, hx, rfl⟩ := List.mem_map.1 h2
    have := h x hx
    rw [h1] at this
    simpa using this
  · intro h x hx
    cases hw : withinB x.1 a with
    | false => rfl
    | true => simpa using h x.1 (withinsS_mem.2 ⟨hw, List.mem_map.2 ⟨x, hx, rfl⟩⟩)
theorem within_size {k a : ByteArray} (ha : mayB a = true) (h : withinB k a = true) : a.size ≤ k.size ∧ k.size ≤ 160 := by
  obtain ⟨r, hr⟩ := within_form ha h
  have h1 := congrArg List.length hr
  rw [len_toList, List.length_append, len_toList] at h1
  refine ⟨by omega, mayB_size ?_⟩
  unfold withinB at h
  simp only [Bool.and_eq_true] at h
  exact h.1
end Go.Proofs.YtldppmjjgljinaaGreatDoor
