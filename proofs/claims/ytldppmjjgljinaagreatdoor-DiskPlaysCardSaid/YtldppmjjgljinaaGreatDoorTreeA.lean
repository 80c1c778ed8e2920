/- A disk's tree in memory; caravan/disk's size, dir, home, file. -/
import Derived.Test.YtldppmjjgljinaaGreatDoorDMap
import Derived.Test.YtldppmjjgljinaaGreatDoorBlk
import Derived.Test.YtldppmjjgljinaaGreatDoorTreeE
import Derived.WideLaws
namespace Go.Proofs.YtldppmjjgljinaaGreatDoor
open Go.RowKit

/-- Block t is a tree of just these nodes (in map m). -/
structure TreeAt (w : World) (t m : Nat) (l : Nodes) (room : Nat) : Prop where
  blk : w.heap[t]? = some (.cells #[.map (some m), .int .i64 (usedL l : Nat), .int .i64 (room : Nat)] 144 (0, 0))
  map : MapL w m l
theorem TreeAt.kept {w w' : World} {t m : Nat} {l : Nodes} {room : Nat} (T : TreeAt w t m l room) (h1 : w'.heap[t]? = w.heap[t]?) (h2 : w'.heap[m]? = w.heap[m]?) : TreeAt w' t m l room := ⟨h1.trans T.blk, T.map.kept h2⟩
theorem TreeAt.ext {w w' : World} {t m : Nat} {l : Nodes} {room : Nat} (T : TreeAt w t m l room) (x : Ext w w') : TreeAt w' t m l room := T.kept (x.block (ltB T.blk)) (x.block T.map.lt)
theorem TreeAt.chg {w w' : World} {t m : Nat} {l : Nodes} {room : Nat} {F : List Nat} (T : TreeAt w t m l room) (x : Chg F w w') (h1 : t ∉ F) (h2 : m ∉ F) : TreeAt w' t m l room := T.kept (x.block _ (ltB T.blk) h1) (x.block _ T.map.lt h2)
theorem TreeAt.ne {w : World} {t m : Nat} {l : Nodes} {room : Nat} (T : TreeAt w t m l room) : t ≠ m := by
  intro e
  obtain ⟨D, ⟨es, clock, h, _⟩, _⟩ := T.map.own
  have := T.blk
  rw [e, h] at this
  cases this
theorem TreeAt.perm {w : World} {t m : Nat} {l l' : Nodes} {room : Nat} (T : TreeAt w t m l room) (p : l.Perm l') : TreeAt w t m l' room := ⟨usedL_perm p ▸ T.blk, T.map.perm p⟩
theorem lt_of_tree {w : World} {t m : Nat} {l : Nodes} {room : Nat} (T : TreeAt w t m l room) : t < w.heap.size ∧ m < w.heap.size := ⟨ltB T.blk, T.map.lt⟩

/-- disk.size. -/
theorem dsize_any (k t : Int) (d g : ByteArray) (w : World) (hd : d.size ≤ 68719476736) :
    Calls Tryz.prog 219 #[.agg #[.int .i64 k, .string d, .string g, .int .i64 t]] w fun e w' => e = .returned (.int .i64 (64 + d.size : Nat)) ∧ Ext w w' := by
  go_enter Tryz.func219, Tryz.ntmps219
  go_wp2_with fail
  go_ret
  exact ⟨ret_int (by omega), (Ext.refl w).alloc _⟩

set_option maxHeartbeats 800000 in
theorem ddir_any (t m : Nat) (l : Nodes) (room : Nat) (p : ByteArray) (w : World) (T : TreeAt w t m l room) (hp : p.size ≤ maxLen) (hk : ∀ n, findA l p = some n → n.kind ≠ 0) :
    Calls Tryz.prog 133 #[.pointer (some ⟨t, 0, none⟩), .string p] w fun e w' => e = .returned (.int .i64 (dirE l p)) ∧ Ext w w' := by
  have c0 : w.cell? ⟨t, 0, none⟩ = some (.map (some m)) := cellB T.blk
  have L := T.map.look_ok p hp
  have HE := Lib.hid (show dirE l p = if kindAt l p = 0 then 5 else if kindAt l p = 2 then 0 else 12 from rfl)
  unfold kindAt at HE
  clear T
  cases he : p.toList.isEmpty with
  | true =>
    have HR := Lib.hid (show dirE l p = 0 from by rw [HE.out, he]; rfl)
    have e1 : p.toList = [] := empty_of.1 he
    clear HE he hk L
    generalize dirE l p = E at *
    go_enter Tryz.func133, Tryz.ntmps133
    go_wp2_with fail
    go_ret
    exact ⟨ret_int HR.out.symm, Ext.refl w⟩
  | false =>
    cases hf : findA l p with
    | none =>
      have HR := Lib.hid (show dirE l p = 5 from by rw [HE.out, he, hf]; rfl)
      rw [hf] at L
      have L2 : (Instr.lookup 142 (.map (some m)) (.string p) true).run Tryz.prog w = .ok (.tuple #[.agg #[.int .i64 0, .string ⟨#[]⟩, .string ⟨#[]⟩, .int .i64 0], .bool false]) w := L
      clear HE hk L hf
      generalize dirE l p = E at *
      go_enter Tryz.func133, Tryz.ntmps133
      go_wp2_with fail
      go_ret
      exact ⟨ret_int HR.out.symm, (Ext.refl w).alloc _⟩
    | some n =>
      have hk0 := hk n hf
      rw [hf] at L
      obtain ⟨k, d, g, tm⟩ := n
      have L2 : (Instr.lookup 142 (.map (some m)) (.string p) true).run Tryz.prog w = .ok (.tuple #[.agg #[.int .i64 k, .string d, .string g, .int .i64 tm], .bool true]) w := L
      have HR := Lib.hid (show dirE l p = if k = 2 then 0 else 12 from by
        rw [HE.out, he, hf]
        show (if k = 0 then (5 : Int) else if k = 2 then 0 else 12) = _
        rw [if_neg hk0])
      clear HE hk L hf hk0
      generalize dirE l p = E at *
      by_cases h2 : k = 2
      · subst h2
        go_enter Tryz.func133, Tryz.ntmps133
        go_wp2_with fail
        go_ret
        exact ⟨ret_int HR.out.symm, (Ext.refl w).alloc _⟩
      · have h3 : (k == 2) = false := by simpa using h2
        have h4 : (k != 2) = true := by simpa using h2
        have HR2 := Lib.hid (HR.out.trans (if_neg h2))
        clear h2 HR
        go_enter Tryz.func133, Tryz.ntmps133
        go_wp2_with fail
        go_ret
        exact ⟨ret_int HR2.out.symm, (Ext.refl w).alloc _⟩

theorem parentR_le (p : ByteArray) : (parentR p).size ≤ p.size := by
  unfold parentR
  split
  · exact parentS_le p
  · exact Nat.zero_le _
set_option maxHeartbeats 800000 in
theorem dhome_any (t m : Nat) (l : Nodes) (room : Nat) (p : ByteArray) (w : World) (E : Env w) (T : TreeAt w t m l room) (hp : p.size < 4294967281) (hk : ∀ q n, findA l q = some n → n.kind ≠ 0) :
    Calls Tryz.prog 181 #[.pointer (some ⟨t, 0, none⟩), .string p] w fun e w' => e = .returned (.int .i64 (homeE l p)) ∧ Ext w w' := by
  have P := Lib.hid (parent_any p w hp E)
  have hle := parentR_le p
  have D := fun w (T : TreeAt w t m l room) => Lib.hid (ddir_any t m l room (parentR p) w T (by unfold maxLen; omega) (hk _))
  have HE := Lib.hid (show homeE l p = dirE l (parentR p) from rfl)
  have HT := Lib.hid T
  clear T hk hle E
  generalize parentR p = q at *
  generalize dirE l q = R at *
  generalize homeE l p = R' at *
  go_enter Tryz.func181, Tryz.ntmps181
  go_wp2_with fail
  refine (P.out).mono ?_
  rintro e w1 ⟨rfl, x1⟩
  go_wp2_with fail
  refine ((D _ (HT.out.ext x1)).out).mono ?_
  rintro e w2 ⟨rfl, x2⟩
  go_wp2_with fail
  go_ret
  exact ⟨ret_int HE.out.symm, x1.trans x2⟩

set_option maxRecDepth 100000 in
set_option maxHeartbeats 800000 in
theorem dfile_any (t m : Nat) (l : Nodes) (room : Nat) (p : ByteArray) (w : World) (T : TreeAt w t m l room) (hp : p.size ≤ maxLen) :
    Calls Tryz.prog 184 #[.pointer (some ⟨t, 0, none⟩), .string p] w fun e w' => e = .returned (.int .i64 (fileE l p)) ∧ Ext w w' := by
  have c0 : w.cell? ⟨t, 0, none⟩ = some (.map (some m)) := cellB T.blk
  have L := T.map.look p hp
  have HE := Lib.hid (show fileE l p = match findA l p with | some n => if n.kind = 2 then 12 else if n.kind = 3 then 11 else 0 | none => 0 from rfl)
  clear T
  cases hf : findA l p with
  | none =>
    have HR := Lib.hid (show fileE l p = 0 from by rw [HE.out, hf])
    rw [hf] at L
    have L2 : (Instr.lookup 142 (.map (some m)) (.string p) false).run Tryz.prog w = .ok (.agg #[.int .i64 0, .string ⟨#[]⟩, .string ⟨#[]⟩, .int .i64 0]) w := L
    have F0 : ∀ w : World, (Instr.field 57 (.agg #[.int .i64 0, .string ⟨#[]⟩, .string ⟨#[]⟩, .int .i64 0]) 0).run Tryz.prog w = .ok (.int .i64 0) w := fun _ => by kernel_rfl
    clear HE L hf
    generalize fileE l p = E at *
    go_enter Tryz.func184, Tryz.ntmps184
    go_wp2_with fail
    go_ret
    exact ⟨ret_int HR.out.symm, Ext.refl w⟩
  | some n =>
    obtain ⟨k, d, g, tm⟩ := n
    have HR := Lib.hid (show fileE l p = if k = 2 then 12 else if k = 3 then 11 else 0 from by rw [HE.out, hf])
    rw [hf] at L
    have L2 : (Instr.lookup 142 (.map (some m)) (.string p) false).run Tryz.prog w = .ok (.agg #[.int .i64 k, .string d, .string g, .int .i64 tm]) w := L
    have F0 : ∀ w : World, (Instr.field 57 (.agg #[.int .i64 k, .string d, .string g, .int .i64 tm]) 0).run Tryz.prog w = .ok (.int .i64 k) w := fun _ => by kernel_rfl
    clear HE L hf
    generalize fileE l p = E at *
    by_cases h2 : k = 2
    · subst h2
      go_enter Tryz.func184, Tryz.ntmps184
      go_wp2_with fail
      go_ret
      exact ⟨ret_int HR.out.symm, Ext.refl w⟩
    · by_cases h3 : k = 3
      · subst h3
        go_enter Tryz.func184, Tryz.ntmps184
        go_wp2_with fail
        go_ret
        exact ⟨ret_int HR.out.symm, Ext.refl w⟩
      · have e2 : (k == 2) = false := by simpa using h2
        have e3 : (k == 3) = false := by simpa using h3
        have HR2 := Lib.hid ((HR.out.trans (if_neg h2)).trans (if_neg h3))
        clear h2 h3 HR
        go_enter Tryz.func184, Tryz.ntmps184
        go_wp2_with fail
        go_ret
        exact ⟨ret_int HR2.out.symm, Ext.refl w⟩
end Go.Proofs.YtldppmjjgljinaaGreatDoor
