/- caravan/disk's put, drop: walks. caravan/disk's drop, first: walks. -/
import Derived.Test.YtldppmjjgljinaaGreatDoorTreeA
import Derived.Deep.RegionHeld
namespace Go.Proofs.YtldppmjjgljinaaGreatDoor
open Go.RowKit

/-- A new node put in: the map, then the number. -/
theorem TreeAt.stored {w w1 w' : World} {t m : Nat} {l : Nodes} {room : Nat} (T : TreeAt w t m l room) (hs : Sorted l) {p : ByteArray} {n : Nd} (h1 : MapL w1 m ((p, n) :: dropA l p)) (hb : w1.heap[t]? = w.heap[t]?)
    (hw : w' = w1.setCell ⟨t, 1, none⟩ (.int .i64 (usedL (insS l p n) : Nat))) : TreeAt w' t m (insS l p n) room := by
  subst hw
  have hne := T.ne
  refine ⟨?_, ?_⟩
  · rw [setCellB (hb.trans T.blk)]; rfl
  · exact (h1.perm (ins_drop l p n hs).symm).kept (setCellO (Ne.symm hne))
theorem held4 {w : World} {t b m : Nat} {x y k d g tm : Value} {T U : TypeId} (h1 : w.heap[t]? = some (.cells #[.map (some m), x, y] T (0, 0))) (h2 : w.heap[b]? = some (.cells #[k, d, g, tm] U (0, 0))) :
    w.cell? ⟨t, 0, none⟩ = some (.map (some m)) ∧ w.cell? ⟨b, 0, none⟩ = some k ∧ w.cell? ⟨b, 1, none⟩ = some d ∧ w.cell? ⟨b, 2, none⟩ = some g ∧ w.cell? ⟨b, 3, none⟩ = some tm := ⟨cellB h1, cellB h2, cellB h2, cellB h2, cellB h2⟩
/-- What is true behind 'put', where there is room. -/
theorem put_end {w w3 w5 w6 : World} {t m : Nat} {l : Nodes} {room : Nat} {p : ByteArray} {n : Nd} {R : Int × Nodes} {u : Int} (T3 : TreeAt w3 t m l room) (X3 : Ext w w3) (hs : Sorted l) (hm6 : MapL w6 m ((p, n) :: dropA l p)) (e6 : w6.heap[t]? = w3.heap[t]?) (hg5 : w3.drew.grownBy w5 (some m)) (hg6 : w5.grownBy w6 (some m))
    (hu : u = (usedL (insS l p n) : Nat)) (hfit : usedL (insS l p n) ≤ room) (hR : R = if usedL (insS l p n) ≤ room then (0, insS l p n) else (7, l)) :
    Ending.returned (.int .i64 0) = .returned (.int .i64 R.1) ∧ TreeAt (w6.setCell ⟨t, 1, none⟩ (.int .i64 u)) t m R.2 room ∧ Chg [t, m] w (w6.setCell ⟨t, 1, none⟩ (.int .i64 u)) := by
  rw [if_pos hfit] at hR
  subst hR
  subst hu
  refine ⟨rfl, T3.stored hs hm6 e6 rfl, ?_⟩
  have c5 : Chg [t, m] w w5 := ((X3.drew).chg [t, m]).trans (Chg.grown (F := [t, m]) hg5 (by simp)) (fun x hx => .inl hx)
  have c6 : Chg [t, m] w w6 := c5.trans (Chg.grown (F := [t, m]) hg6 (by simp)) (fun x hx => .inl hx)
  exact c6.trans (Chg.setCell (F := [t, m]) w6 ⟨t, 1, none⟩ _ (by simp)) (fun x hx => .inl hx)
theorem put_full {w w3 : World} {t m : Nat} {l : Nodes} {room : Nat} {p : ByteArray} {n : Nd} {R : Int × Nodes} (T3 : TreeAt w3 t m l room) (X3 : Ext w w3) (hfit : ¬ usedL (insS l p n) ≤ room) (hR : R = if usedL (insS l p n) ≤ room then (0, insS l p n) else (7, l)) :
    Ending.returned (.int .i64 7) = .returned (.int .i64 R.1) ∧ TreeAt w3 t m R.2 room ∧ Chg [t, m] w w3 := by
  rw [if_neg hfit] at hR
  subst hR
  exact ⟨rfl, T3, X3.chg _⟩

set_option maxRecDepth 100000 in
set_option maxHeartbeats 4000000 in
theorem dput_any (t m : Nat) (l : Nodes) (room : Nat) (p : ByteArray) (k tm : Int) (d g : ByteArray) (w : World) (T : TreeAt w t m l room) (hs : Sorted l) (hp : p.size ≤ maxLen) (hl : usedL l ≤ 1048576) (hd : d.size ≤ 1073741824) (hr : room ≤ 1048576) :
    Calls Tryz.prog 182 #[.pointer (some ⟨t, 0, none⟩), .string p, .agg #[.int .i64 k, .string d, .string g, .int .i64 tm]] w
      fun e w' => e = .returned (.int .i64 (putE l room p ⟨k, d, g, tm⟩).1) ∧ TreeAt w' t m (putE l room p ⟨k, d, g, tm⟩).2 room ∧ Chg [t, m] w w' := by
  have hlen := len_used l
  have hU := ins_used hs p ⟨k, d, g, tm⟩
  have S1 := fun w => Lib.hid (dsize_any k tm d g w (by omega))
  have HE := Lib.hid (show putE l room p ⟨k, d, g, tm⟩ = if usedL (insS l p ⟨k, d, g, tm⟩) ≤ room then (0, insS l p ⟨k, d, g, tm⟩) else (7, l) from rfl)
  have hold := fun (o : Nd) (h : findA l p = some o) => mem_used (findA_mem h)
  generalize putE l room p ⟨k, d, g, tm⟩ = R at *
  obtain ⟨W1, hW1⟩ : ∃ W1, W1 = w.alloc (.cells #[.int .i64 k, .string d, .string g, .int .i64 tm] 57) := ⟨_, rfl⟩
  have X1 : Ext w W1 := hW1 ▸ (Ext.refl w).alloc _
  have hbw : W1.heap[w.heap.size]? = some (.cells #[.int .i64 k, .string d, .string g, .int .i64 tm] 57 (0, 0)) := by rw [hW1]; exact block_alloc_new _ _
  have B1 := (T.ext X1).blk
  have HT := Lib.hid T
  have htn := (lt_of_tree T).1
  have hmn := (lt_of_tree T).2
  have htm := T.ne
  have ct1 := After.at (k := 1) B1
  have cb0 := After.at (k := 0) hbw
  have cb1 := After.at (k := 1) hbw
  have cb2 := After.at (k := 2) hbw
  have cb3 := After.at (k := 3) hbw
  clear B1 X1
  subst hW1
  have hB0 : 64 + d.size ≤ 1073741888 := by omega
  have hlen2 : l.length < 1048576 := by omega
  generalize hB : 64 + d.size = B at *
  generalize hA : usedL l = A at *
  have HH := Lib.hid hU
  have HA := Lib.hid hA
  clear hU hB hA hlen
  have hsum : IntKind.i64.wrap ((A : Int) + (B : Int)) = (A : Int) + (B : Int) := IntWalk.i64_in _ (by omega)
  go_enter Tryz.func182, Tryz.ntmps182
  go_wp2_with fail
  refine wp_region_after (by kernel_rfl) (by kernel_rfl) ?_
  repeat (go_big_quiet_step ((go_at_call 219; exact After.of (S1 _).out)))
  refine wpQuiet_nil ?_
  rintro W2 ⟨⟨_, x2⟩, rfl⟩
  clear hsum ct1 cb0 cb1 cb2 cb3 S1
  have hlt0 : w.heap.size < W2.heap.size := Nat.lt_of_lt_of_le (by simp) x2.size
  have hb2 := (x2.block (ltB hbw)).trans hbw
  have X2 : Ext w W2 := ((Ext.refl w).alloc _).trans x2
  have T2 := HT.out.ext X2
  have L := T2.map.look_ok p hp
  have c0 : W2.cell? ⟨t, 0, none⟩ = some (.map (some m)) := cellB T2.blk
  have HB2 := Lib.hid hb2
  have HX2 := Lib.hid X2
  have HT2 := Lib.hid T2
  clear x2 X2 T2 hb2 hbw
  cases hf : findA l p with
  | none =>
    rw [hf] at L
    have L2 : (Instr.lookup 142 (.map (some m)) (.string p) true).run Tryz.prog W2 = .ok (.tuple #[.agg #[.int .i64 0, .string ⟨#[]⟩, .string ⟨#[]⟩, .int .i64 0], .bool false]) W2 := L
    clear L
    have HU := Lib.hid (show usedL (insS l p ⟨k, d, g, tm⟩) = A + B from by have := HH.out; unfold oldU at this; rw [hf] at this; simpa using this)
    obtain ⟨W3, hW3⟩ : ∃ W3, W3 = W2.alloc (.cells #[.int .i64 0, .string ⟨#[]⟩, .string ⟨#[]⟩, .int .i64 0] 57 (0, 0)) := ⟨_, rfl⟩
    have x3 : Ext W2 W3 := hW3 ▸ (Ext.refl W2).alloc _
    have HX3 := Lib.hid (HX2.out.trans x3)
    have HT3 := Lib.hid (HT2.out.ext x3)
    have HB3 := Lib.hid ((x3.block hlt0).trans HB2.out)
    have hlt3 : w.heap.size < W3.heap.size := Nat.lt_of_lt_of_le hlt0 x3.size
    have c2 : W2.cell? ⟨t, 2, none⟩ = some (.int .i64 (room : Nat)) := cellB HT2.out.blk
    have t2 := (lt_of_tree HT2.out).1
    clear HX2 HT2 HB2 HH x3 hold hf
    by_cases hfit : A + B ≤ room
    · obtain ⟨v0, st, w5, hr5, hg5, hs5, hall⟩ := (HT3.out.ext ((Ext.refl W3).drew)).map.entry hlen2 p hp ⟨k, d, g, tm⟩
      obtain ⟨w6, hr6, hm6, hg6, hs6⟩ := hall w5 rfl
      have hr5' : (Instr.mapEntry 142 (.map (some m)) (.string p)).run Tryz.prog W3.drew = .ok (.tuple #[v0, .int .i64 st]) w5 := hr5
      have hr6' : (Instr.entryStore 142 (.map (some m)) (.int .i64 st) (.agg #[.int .i64 k, .string d, .string g, .int .i64 tm])).run Tryz.prog w5 = .ok () w6 := hr6
      have e5 : ∀ b, b < W3.heap.size → b ≠ m → w5.heap[b]? = W3.heap[b]? := fun b hb hne => hg5.block b hb (fun e => hne (Option.some.inj e))
      have e6 : ∀ b, b < W3.heap.size → b ≠ m → w6.heap[b]? = W3.heap[b]? := fun b hb hne => (hg6.block b (by rw [hs5]; exact hb) (fun e => hne (Option.some.inj e))).trans (e5 b hb hne)
      have hbm : w.heap.size ≠ m := by omega
      have hbt : w.heap.size ≠ t := by omega
      have t3 : t < W3.heap.size := by omega
      have s3 := held4 HT3.out.blk HB3.out
      have s4 : W3.drew.cell? ⟨t, 0, none⟩ = some (.map (some m)) ∧ W3.drew.cell? ⟨w.heap.size, 0, none⟩ = some (.int .i64 k) ∧ W3.drew.cell? ⟨w.heap.size, 1, none⟩ = some (.string d) ∧ W3.drew.cell? ⟨w.heap.size, 2, none⟩ = some (.string g) ∧ W3.drew.cell? ⟨w.heap.size, 3, none⟩ = some (.int .i64 tm) := s3
      have s5 := held4 ((e5 t t3 htm).trans HT3.out.blk) ((e5 _ hlt3 hbm).trans HB3.out)
      have s6 := held4 ((e6 t t3 htm).trans HT3.out.blk) ((e6 _ hlt3 hbm).trans HB3.out)
      have q7 : (w6.setCell ⟨t, 1, none⟩ (.int .i64 ((A : Int) + (B : Int)))).heap[t]? = some (.cells #[.map (some m), .int .i64 ((A : Int) + (B : Int)), .int .i64 (room : Nat)] 144 (0, 0)) := setCellB ((e6 t t3 htm).trans HT3.out.blk)
      have s7 := held4 q7 ((setCellO hbt).trans ((e6 _ hlt3 hbm).trans HB3.out))
      have c6 : w6.cell? ⟨t, 1, none⟩ = some (.int .i64 A) := by rw [← HA.out]; exact cellB ((e6 t t3 htm).trans HT3.out.blk)
      have f6 : w6.frozen? ⟨t, 1, none⟩ = false := frozenB ((e6 t t3 htm).trans HT3.out.blk)
      have HH4 := Lib.hid (And.intro hm6 (And.intro (e6 t t3 htm) (And.intro hg5 hg6)))
      clear hm6 e6 hg5 hg6 hr6 hr5 hall hs5 hs6 e5 hbm hbt q7 t3
      go_wp2_with fail
      rw [← hW3]; clear hW3
      go_region_held (fun w' => w'.cell? ⟨t, 0, none⟩ = some (.map (some m)) ∧ w'.cell? ⟨w.heap.size, 0, none⟩ = some (.int .i64 k) ∧ w'.cell? ⟨w.heap.size, 1, none⟩ = some (.string d) ∧ w'.cell? ⟨w.heap.size, 2, none⟩ = some (.string g) ∧ w'.cell? ⟨w.heap.size, 3, none⟩ = some (.int .i64 tm)) (first | assumption | go_keep) (fail)
      go_wp2_with fail
      go_ret
      exact put_end HT3.out HX3.out hs HH4.out.1 HH4.out.2.1 HH4.out.2.2.1 HH4.out.2.2.2 (by have := HU.out; omega) (by have := HU.out; omega) HE.out
    · have hno : (room : Int) < (A : Int) + (B : Int) := by omega
      go_wp2_with fail
      rw [← hW3]; clear hW3
      go_ret
      exact put_full HT3.out HX3.out (by have := HU.out; omega) HE.out
  | some o =>
    rw [hf] at L
    have ho := hold o hf
    have HU := Lib.hid (show usedL (insS l p ⟨k, d, g, tm⟩) + (64 + o.data.size) = A + B from by have := HH.out; unfold oldU at this; rw [hf] at this; simpa using this)
    have ha : 64 + o.data.size ≤ A := by have := HA.out; omega
    obtain ⟨k1, d1, g1, tm1⟩ := o
    have L2 : (Instr.lookup 142 (.map (some m)) (.string p) true).run Tryz.prog W2 = .ok (.tuple #[.agg #[.int .i64 k1, .string d1, .string g1, .int .i64 tm1], .bool true]) W2 := L
    have S2 := fun w => Lib.hid (dsize_any k1 tm1 d1 g1 w (by simp at ha; omega))
    have HU := Lib.hid (show usedL (insS l p ⟨k, d, g, tm⟩) + (64 + d1.size) = A + B from HU.out)
    have ha : 64 + d1.size ≤ A := ha
    generalize 64 + d1.size = C at *
    clear L hf hold HH ho
    go_wp2_with fail
    refine (S2 _).out.mono ?_
    rintro e W3 ⟨rfl, x3'⟩
    have x3 : Ext W2 W3 := ((Ext.refl W2).alloc _).trans x3'
    have HX3 := Lib.hid (HX2.out.trans x3)
    have HT3 := Lib.hid (HT2.out.ext x3)
    have HB3 := Lib.hid ((x3.block hlt0).trans HB2.out)
    have hlt3 : w.heap.size < W3.heap.size := Nat.lt_of_lt_of_le hlt0 x3.size
    have c2 : W3.cell? ⟨t, 2, none⟩ = some (.int .i64 (room : Nat)) := cellB HT3.out.blk
    clear HX2 HT2 HB2 x3 x3' S2
    by_cases hfit : A + B - C ≤ room
    · obtain ⟨v0, st, w5, hr5, hg5, hs5, hall⟩ := (HT3.out.ext ((Ext.refl W3).drew)).map.entry hlen2 p hp ⟨k, d, g, tm⟩
      obtain ⟨w6, hr6, hm6, hg6, hs6⟩ := hall w5 rfl
      have hr5' : (Instr.mapEntry 142 (.map (some m)) (.string p)).run Tryz.prog W3.drew = .ok (.tuple #[v0, .int .i64 st]) w5 := hr5
      have hr6' : (Instr.entryStore 142 (.map (some m)) (.int .i64 st) (.agg #[.int .i64 k, .string d, .string g, .int .i64 tm])).run Tryz.prog w5 = .ok () w6 := hr6
      have e5 : ∀ b, b < W3.heap.size → b ≠ m → w5.heap[b]? = W3.heap[b]? := fun b hb hne => hg5.block b hb (fun e => hne (Option.some.inj e))
      have e6 : ∀ b, b < W3.heap.size → b ≠ m → w6.heap[b]? = W3.heap[b]? := fun b hb hne => (hg6.block b (by rw [hs5]; exact hb) (fun e => hne (Option.some.inj e))).trans (e5 b hb hne)
      have hbm : w.heap.size ≠ m := by omega
      have hbt : w.heap.size ≠ t := by omega
      have t3 : t < W3.heap.size := by omega
      have s3 := held4 HT3.out.blk HB3.out
      have s4 : W3.drew.cell? ⟨t, 0, none⟩ = some (.map (some m)) ∧ W3.drew.cell? ⟨w.heap.size, 0, none⟩ = some (.int .i64 k) ∧ W3.drew.cell? ⟨w.heap.size, 1, none⟩ = some (.string d) ∧ W3.drew.cell? ⟨w.heap.size, 2, none⟩ = some (.string g) ∧ W3.drew.cell? ⟨w.heap.size, 3, none⟩ = some (.int .i64 tm) := s3
      have s5 := held4 ((e5 t t3 htm).trans HT3.out.blk) ((e5 _ hlt3 hbm).trans HB3.out)
      have s6 := held4 ((e6 t t3 htm).trans HT3.out.blk) ((e6 _ hlt3 hbm).trans HB3.out)
      have q7 : (w6.setCell ⟨t, 1, none⟩ (.int .i64 ((A : Int) + (B : Int) - (C : Int)))).heap[t]? = some (.cells #[.map (some m), .int .i64 ((A : Int) + (B : Int) - (C : Int)), .int .i64 (room : Nat)] 144 (0, 0)) := setCellB ((e6 t t3 htm).trans HT3.out.blk)
      have s7 := held4 q7 ((setCellO hbt).trans ((e6 _ hlt3 hbm).trans HB3.out))
      have c6 : w6.cell? ⟨t, 1, none⟩ = some (.int .i64 A) := by rw [← HA.out]; exact cellB ((e6 t t3 htm).trans HT3.out.blk)
      have f6 : w6.frozen? ⟨t, 1, none⟩ = false := frozenB ((e6 t t3 htm).trans HT3.out.blk)
      have HH4 := Lib.hid (And.intro hm6 (And.intro (e6 t t3 htm) (And.intro hg5 hg6)))
      clear hm6 e6 hg5 hg6 hr6 hr5 hall hs5 hs6 e5 hbm hbt q7 t3
      go_wp2_with fail
      go_region_held (fun w' => w'.cell? ⟨t, 0, none⟩ = some (.map (some m)) ∧ w'.cell? ⟨w.heap.size, 0, none⟩ = some (.int .i64 k) ∧ w'.cell? ⟨w.heap.size, 1, none⟩ = some (.string d) ∧ w'.cell? ⟨w.heap.size, 2, none⟩ = some (.string g) ∧ w'.cell? ⟨w.heap.size, 3, none⟩ = some (.int .i64 tm)) (first | assumption | go_keep) (fail)
      go_wp2_with fail
      go_ret
      exact put_end HT3.out HX3.out hs HH4.out.1 HH4.out.2.1 HH4.out.2.2.1 HH4.out.2.2.2 (by have := HU.out; omega) (by have := HU.out; omega) HE.out
    · have hno : (room : Int) < (A : Int) + (B : Int) - (C : Int) := by omega
      go_wp2_with fail
      go_ret
      exact put_full HT3.out HX3.out (by have := HU.out; omega) HE.out
end Go.Proofs.YtldppmjjgljinaaGreatDoor

namespace Go.Proofs.YtldppmjjgljinaaGreatDoor
open Go.RowKit

theorem drop_end {w w4 w6 : World} {t m : Nat} {l : Nodes} {room : Nat} {p : ByteArray} {u : Int} (T4 : TreeAt w4 t m l room) (X4 : Ext w w4) (hm6 : MapL w6 m (dropA l p)) (hg6 : (w4.setCell ⟨t, 1, none⟩ (.int .i64 u)).mapTurned w6 m) (hu : u = (usedL (dropA l p) : Nat)) :
    TreeAt w6 t m (dropA l p) room ∧ Chg [t, m] w w6 := by
  subst hu
  have hg := hg6.grown
  have h4 : (w4.setCell ⟨t, 1, none⟩ (.int .i64 (usedL (dropA l p) : Nat))).heap[t]? = some (.cells #[.map (some m), .int .i64 (usedL (dropA l p) : Nat), .int .i64 (room : Nat)] 144 (0, 0)) := setCellB T4.blk
  refine ⟨⟨?_, hm6⟩, ?_⟩
  · rw [hg.block t (ltB h4) (fun e => T4.ne (Option.some.inj e))]
    exact h4
  · have c5 : Chg [t, m] w (w4.setCell ⟨t, 1, none⟩ (.int .i64 (usedL (dropA l p) : Nat))) := (X4.chg [t, m]).trans (Chg.setCell (F := [t, m]) w4 ⟨t, 1, none⟩ _ (by simp)) (fun x hx => .inl hx)
    exact c5.trans (Chg.grown (F := [t, m]) hg (by simp)) (fun x hx => .inl hx)

set_option maxRecDepth 100000 in
set_option maxHeartbeats 2000000 in
theorem ddrop_any (t m : Nat) (l : Nodes) (room : Nat) (p : ByteArray) (w : World) (T : TreeAt w t m l room) (hs : Sorted l) (hp : p.size ≤ maxLen) (hl : usedL l ≤ 1048576) :
    Calls Tryz.prog 186 #[.pointer (some ⟨t, 0, none⟩), .string p] w
      fun e w' => e = .returned (.tuple #[]) ∧ TreeAt w' t m (dropA l p) room ∧ Chg [t, m] w w' := by
  have hU := drop_used hs.nodup p
  have c0 : w.cell? ⟨t, 0, none⟩ = some (.map (some m)) := cellB T.blk
  have L := T.map.look_ok p hp
  have HT := Lib.hid T
  have htn := (lt_of_tree T).1
  have htm := T.ne
  cases hf : findA l p with
  | none =>
    rw [hf] at L
    have L2 : (Instr.lookup 142 (.map (some m)) (.string p) true).run Tryz.prog w = .ok (.tuple #[.agg #[.int .i64 0, .string ⟨#[]⟩, .string ⟨#[]⟩, .int .i64 0], .bool false]) w := L
    have HD := Lib.hid (usedL_drop_none hf)
    clear L hU hf T hl
    go_enter Tryz.func186, Tryz.ntmps186
    go_wp2_with fail
    go_end0
    rw [HD.out]
    have x : Ext w (w.alloc (.cells #[.int .i64 0, .string ⟨#[]⟩, .string ⟨#[]⟩, .int .i64 0] 57)) := (Ext.refl w).alloc _
    exact ⟨rfl, HT.out.ext x, x.chg _⟩
  | some o =>
    rw [hf] at L
    have ho := mem_used (findA_mem hf)
    have HU := Lib.hid (show usedL (dropA l p) + (64 + o.data.size) = usedL l from by unfold oldU at hU; rw [hf] at hU; exact hU)
    obtain ⟨k1, d1, g1, tm1⟩ := o
    have L2 : (Instr.lookup 142 (.map (some m)) (.string p) true).run Tryz.prog w = .ok (.tuple #[.agg #[.int .i64 k1, .string d1, .string g1, .int .i64 tm1], .bool true]) w := L
    have S2 := fun w => Lib.hid (dsize_any k1 tm1 d1 g1 w (by simp at ho; omega))
    have HU := Lib.hid (show usedL (dropA l p) + (64 + d1.size) = usedL l from HU.out)
    have ho : 64 + d1.size ≤ usedL l := ho
    obtain ⟨W1, hW1⟩ : ∃ W1, W1 = w.alloc (.cells #[.int .i64 k1, .string d1, .string g1, .int .i64 tm1] 57 (0, 0)) := ⟨_, rfl⟩
    have X1 : Ext w W1 := hW1 ▸ (Ext.refl w).alloc _
    have hbw : W1.heap[w.heap.size]? = some (.cells #[.int .i64 k1, .string d1, .string g1, .int .i64 tm1] 57 (0, 0)) := by rw [hW1]; exact block_alloc_new _ _
    have T1 := T.ext X1
    have ct1 := After.at (k := 1) T1.blk
    have ft1 := After.free (k := 1) T1.blk
    have cb0 := After.at (k := 0) hbw
    have cb1 := After.at (k := 1) hbw
    have cb2 := After.at (k := 2) hbw
    have cb3 := After.at (k := 3) hbw
    have HX1 := Lib.hid X1
    clear T T1 X1 hbw L hf hU
    subst hW1
    generalize hC : 64 + d1.size = C at *
    generalize hA : usedL l = A at *
    have HA := Lib.hid hA
    clear hA hC
    have hsub : IntKind.i64.wrap ((A : Int) - (C : Int)) = (A : Int) - (C : Int) := IntWalk.i64_in _ (by omega)
    go_enter Tryz.func186, Tryz.ntmps186
    go_wp2_with fail
    refine wp_region_after_tail 7 (by kernel_rfl) (by kernel_rfl) ?_
    simp only [List.take_succ_cons, List.take_zero, List.drop_succ_cons, List.drop_zero]
    repeat (go_big_quiet_step ((go_at_call 219; exact After.of (S2 _).out)))
    refine wpQuiet_nil ?_
    rintro W4 ⟨⟨_, x4⟩, rfl⟩
    have X4 := HX1.out.trans x4
    have T4 := HT.out.ext X4
    have c1 : W4.cell? ⟨t, 1, none⟩ = some (.int .i64 A) := by rw [← HA.out]; exact cellB T4.blk
    have f1 : W4.frozen? ⟨t, 1, none⟩ = false := frozenB T4.blk
    have q5 : (W4.setCell ⟨t, 1, none⟩ (.int .i64 ((A : Int) - (C : Int)))).heap[t]? = some (.cells #[.map (some m), .int .i64 ((A : Int) - (C : Int)), .int .i64 (room : Nat)] 144 (0, 0)) := setCellB T4.blk
    have c5 : (W4.setCell ⟨t, 1, none⟩ (.int .i64 ((A : Int) - (C : Int)))).cell? ⟨t, 0, none⟩ = some (.map (some m)) := cellB q5
    have hm5 : MapL (W4.setCell ⟨t, 1, none⟩ (.int .i64 ((A : Int) - (C : Int)))) m l := T4.map.kept (setCellO (Ne.symm htm))
    obtain ⟨w6, hr6, hm6, hg6⟩ := hm5.drop p hp 0
    have HH := Lib.hid (And.intro T4 (And.intro X4 (And.intro hm6 hg6)))
    clear T4 X4 hm6 hg6 hm5 q5 x4 hsub ct1 ft1 cb0 cb1 cb2 cb3 HX1 HT S2
    go_wp2_with fail
    go_end0
    have h := drop_end HH.out.1 HH.out.2.1 HH.out.2.2.1 HH.out.2.2.2 (by have := HU.out; omega)
    exact ⟨rfl, h⟩

/-- The first of two errors. -/
def firstE (a b : Int) : Int := if a = 0 then b else a
set_option maxHeartbeats 800000 in
theorem dfirst_any (a b : Int) (g : Nat) (w : World) (h0 : w.cell? ⟨g, 0, none⟩ = some (.int .i64 a)) (h1 : w.cell? ⟨g, 1, none⟩ = some (.int .i64 b)) :
    Calls Tryz.prog 183 #[.slice (some ⟨g, 0, none⟩) 2 2] w fun e w' => e = .returned (.int .i64 (firstE a b)) ∧ w' = w := by
  by_cases ha : a = 0
  · subst ha
    have HR := Lib.hid (show firstE 0 b = b from rfl)
    by_cases hb : b = 0
    · subst hb
      go_enter Tryz.func183, Tryz.ntmps183
      go_wp2_with fail
      go_loop [7] (fun iv => ∃ k : Nat, k ≤ 2 ∧ iv = .int .i64 k) (fun iv => 2 - (intOf iv).toNat)
      case atStart => exact ⟨0, by decide, rfl⟩
      case round =>
        obtain ⟨k, hk, rfl⟩ := hrel
        have ck : k < 2 → w.cell? ⟨g, k, none⟩ = some (.int .i64 0) := fun h => by
          rcases (show k = 0 ∨ k = 1 by omega) with rfl | rfl
          · exact h0
          · exact h1
        by_cases hlt : k < 2
        · have ck := ck hlt
          go_wp2_with fail
          go_round
          case rel => exact ⟨k + 1, by omega, by go_num⟩
          case measure => simp [intOf]; omega
        · obtain rfl : k = 2 := by omega
          go_wp2_with fail
          go_ret
          exact ⟨rfl, rfl⟩
    · have e1 : (b == 0) = false := by simpa using hb
      have e2 : (b != 0) = true := by simpa using hb
      clear hb
      go_enter Tryz.func183, Tryz.ntmps183
      go_wp2_with fail
      go_loop [7] (fun iv => ∃ k : Nat, k ≤ 1 ∧ iv = .int .i64 k) (fun iv => 2 - (intOf iv).toNat)
      case atStart => exact ⟨0, by decide, rfl⟩
      case round =>
        obtain ⟨k, hk, rfl⟩ := hrel
        rcases (show k = 0 ∨ k = 1 by omega) with rfl | rfl
        · go_wp2_with fail
          go_round
          case rel => exact ⟨1, by decide, by go_num⟩
          case measure => simp [intOf]
        · go_wp2_with fail
          go_ret
          exact ⟨ret_int HR.out.symm, rfl⟩
  · have HR := Lib.hid (show firstE a b = a from if_neg ha)
    have e1 : (a == 0) = false := by simpa using ha
    have e2 : (a != 0) = true := by simpa using ha
    clear ha
    go_enter Tryz.func183, Tryz.ntmps183
    go_wp2_with fail
    go_loop [7] (fun iv => ∃ k : Nat, k = 0 ∧ iv = .int .i64 k) (fun iv => 2 - (intOf iv).toNat)
    case atStart => exact ⟨0, rfl, rfl⟩
    case round =>
      obtain ⟨k, rfl, rfl⟩ := hrel
      go_wp2_with fail
      go_ret
      exact ⟨ret_int HR.out.symm, rfl⟩
end Go.Proofs.YtldppmjjgljinaaGreatDoor
