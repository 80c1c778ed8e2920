/- A disk's effects as function values: what each has captured; what a call of one does to a tree. A disk in memory; is, Off, clock; what only tells. caravan/disk's do: an effect is done to a disk. -/
import Derived.Test.YtldppmjjgljinaaGreatDoorTreeI
namespace Go.Proofs.YtldppmjjgljinaaGreatDoor
open Go.RowKit

/-- A function value that stands for an effect; what it has captured lies in blocks of B. -/
def EffAt (w : World) (B : List Nat) (v : Value) : Eff → Prop
  | .write p d t => ∃ b1 b2 b3, v = .func (.func 125) #[] #[.pointer (some ⟨b1, 0, none⟩), .pointer (some ⟨b2, 0, none⟩), .pointer (some ⟨b3, 0, none⟩)] ∧ b1 ∈ B ∧ b2 ∈ B ∧ b3 ∈ B ∧
      w.cell? ⟨b1, 0, none⟩ = some (.string p) ∧ w.cell? ⟨b2, 0, none⟩ = some (.string d) ∧ w.cell? ⟨b3, 0, none⟩ = some (.int .i64 t)
  | .add p d => ∃ b1 b2, v = .func (.func 128) #[] #[.pointer (some ⟨b1, 0, none⟩), .pointer (some ⟨b2, 0, none⟩)] ∧ b1 ∈ B ∧ b2 ∈ B ∧ w.cell? ⟨b1, 0, none⟩ = some (.string p) ∧ w.cell? ⟨b2, 0, none⟩ = some (.string d)
  | .mkdir p => ∃ b1, v = .func (.func 123) #[] #[.pointer (some ⟨b1, 0, none⟩)] ∧ b1 ∈ B ∧ w.cell? ⟨b1, 0, none⟩ = some (.string p)
  | .link p g t => ∃ b1 b2, v = .func (.func 141) #[] #[.pointer (some ⟨b1, 0, none⟩), .pointer (some ⟨b2, 0, none⟩)] ∧ b1 ∈ B ∧ b2 ∈ B ∧ w.cell? ⟨b1, 0, none⟩ = some (.string p) ∧
      w.cell? ⟨b2, 0, none⟩ = some (.int .i64 3) ∧ w.cell? ⟨b2, 1, none⟩ = some (.string ⟨#[]⟩) ∧ w.cell? ⟨b2, 2, none⟩ = some (.string g) ∧ w.cell? ⟨b2, 3, none⟩ = some (.int .i64 t)
  | .rename p q => ∃ b1 b2, v = .func (.func 130) #[] #[.pointer (some ⟨b1, 0, none⟩), .pointer (some ⟨b2, 0, none⟩)] ∧ b1 ∈ B ∧ b2 ∈ B ∧ w.cell? ⟨b1, 0, none⟩ = some (.string p) ∧ w.cell? ⟨b2, 0, none⟩ = some (.string q)
  | .remove p => ∃ b1, v = .func (.func 142) #[] #[.pointer (some ⟨b1, 0, none⟩)] ∧ b1 ∈ B ∧ w.cell? ⟨b1, 0, none⟩ = some (.string p)
theorem EffAt.turn {w w' : World} {B B' : List Nat} {v : Value} {x : Eff} (h : EffAt w B v x) (hB : ∀ b ∈ B, b ∈ B') (hk : ∀ b ∈ B, b < w.heap.size → w'.heap[b]? = w.heap[b]?) : EffAt w' B' v x := by
  have key : ∀ (b o : Nat) (u : Value), b ∈ B → w.cell? ⟨b, o, none⟩ = some u → w'.cell? ⟨b, o, none⟩ = some u := fun b o u hb hc => (World.cell?_of_block (hk b hb (lt_of_cell hc))).trans hc
  cases x with
  | write p d t =>
    obtain ⟨b1, b2, b3, hv, m1, m2, m3, c1, c2, c3⟩ := h
    exact ⟨b1, b2, b3, hv, hB _ m1, hB _ m2, hB _ m3, key _ _ _ m1 c1, key _ _ _ m2 c2, key _ _ _ m3 c3⟩
  | add p d =>
    obtain ⟨b1, b2, hv, m1, m2, c1, c2⟩ := h
    exact ⟨b1, b2, hv, hB _ m1, hB _ m2, key _ _ _ m1 c1, key _ _ _ m2 c2⟩
  | mkdir p =>
    obtain ⟨b1, hv, m1, c1⟩ := h
    exact ⟨b1, hv, hB _ m1, key _ _ _ m1 c1⟩
  | link p g t =>
    obtain ⟨b1, b2, hv, m1, m2, c1, c2, c3, c4, c5⟩ := h
    exact ⟨b1, b2, hv, hB _ m1, hB _ m2, key _ _ _ m1 c1, key _ _ _ m2 c2, key _ _ _ m2 c3, key _ _ _ m2 c4, key _ _ _ m2 c5⟩
  | rename p q =>
    obtain ⟨b1, b2, hv, m1, m2, c1, c2⟩ := h
    exact ⟨b1, b2, hv, hB _ m1, hB _ m2, key _ _ _ m1 c1, key _ _ _ m2 c2⟩
  | remove p =>
    obtain ⟨b1, hv, m1, c1⟩ := h
    exact ⟨b1, hv, hB _ m1, key _ _ _ m1 c1⟩
theorem cutTo_is (most : Nat) (d : ByteArray) : d.extract 0 (min (most : Int) (d.size : Int)).toNat = cutTo most d := by
  unfold cutTo
  rw [show (min (most : Int) (d.size : Int)).toNat = min most d.size from by omega]
theorem cutTo_le (most : Nat) (d : ByteArray) : (cutTo most d).size ≤ most := by unfold cutTo; simp; omega

/-- A tree at hand, and what an effect asks of it. -/
structure Ready (w : World) (t m : Nat) (l : Nodes) (room : Nat) : Prop where
  env : Env w
  tree : TreeAt w t m l room
  ok : TreeOk l room
  room : room ≤ 1048576
theorem Ready.ext {w w' : World} {t m : Nat} {l : Nodes} {room : Nat} (R : Ready w t m l room) (x : Ext w w') : Ready w' t m l room := ⟨R.env.ext x, R.tree.ext x, R.ok, R.room⟩
/-- What a call of an effect does. -/
def EffPost (t m : Nat) (l : Nodes) (room most : Nat) (x : Eff) (w : World) (e : Ending) (w' : World) : Prop :=
  e = .returned (.int .i64 (effE l room most x).1) ∧ TreeAt w' t m (effE l room most x).2 room ∧ Chg [t, m] w w'

set_option maxRecDepth 100000 in
set_option maxHeartbeats 2000000 in
theorem ewrite_any (t m : Nat) (l : Nodes) (room most : Nat) (p d : ByteArray) (tm : Int) (w : World) (R : Ready w t m l room) (hm : most ≤ 1048576) (hp : p.size ≤ 160) (hd : d.size ≤ 4611686018427387904) (b1 b2 b3 : Nat) (c1 : w.cell? ⟨b1, 0, none⟩ = some (.string p)) (c2 : w.cell? ⟨b2, 0, none⟩ = some (.string d)) (c3 : w.cell? ⟨b3, 0, none⟩ = some (.int .i64 tm)) :
    Calls Tryz.prog 125 #[.pointer (some ⟨t, 0, none⟩), .int .i64 (most : Nat), .pointer (some ⟨b1, 0, none⟩), .pointer (some ⟨b2, 0, none⟩), .pointer (some ⟨b3, 0, none⟩)] w (EffPost t m l room most (.write p d tm) w) := by
  have hle := cutTo_le most d
  have HCUT := cutTo_is most d
  have H := fun (x : After w) => Lib.hid (dwrite_any t m l room p (cutTo most d) tm x.v (R.env.ext x.x) (R.tree.ext x.x) R.ok R.room hp (by omega))
  have HP := Lib.hid (show ∀ e w', EffPost t m l room most (.write p d tm) w e w' ↔ (e = .returned (.int .i64 (writeE l room p (cutTo most d) tm).1) ∧ TreeAt w' t m (writeE l room p (cutTo most d) tm).2 room ∧ Chg [t, m] w w') from fun e w' => Iff.rfl)
  have d1 := After.cell c1
  have d2 := After.cell c2
  have d3 := After.cell c3
  have hmin : 0 ≤ min (most : Int) (d.size : Int) ∧ min (most : Int) (d.size : Int) ≤ d.size := by omega
  obtain ⟨hmin1, hmin2⟩ := hmin
  generalize cutTo most d = q at *
  generalize writeE l room p q tm = P at *
  clear R
  go_enter Tryz.func125, Tryz.ntmps125
  go_wp2_with fail
  refine wp_region_after_tail 9 (by kernel_rfl) (by kernel_rfl) ?_
  simp only [List.take_succ_cons, List.take_zero, List.drop_succ_cons, List.drop_zero]
  repeat (go_big_quiet_step (fail))
  refine wpQuiet_nil ?_
  rintro _ ⟨y, rfl⟩
  go_wp2_with fail
  refine (H y).out.mono ?_
  rintro e w4 ⟨rfl, t4, x4⟩
  have HF := Lib.hid ((HP.out _ _).2 ⟨rfl, t4, Chg.from_ext y.x x4⟩)
  clear t4 x4
  go_wp2_with fail
  go_ret
  exact HF.out

set_option maxRecDepth 100000 in
set_option maxHeartbeats 2000000 in
theorem eadd_any (t m : Nat) (l : Nodes) (room most : Nat) (p d : ByteArray) (w : World) (R : Ready w t m l room) (hm : most ≤ 1048576) (hp : p.size ≤ 160) (hd : d.size ≤ 4611686018427387904) (b1 b2 : Nat) (c1 : w.cell? ⟨b1, 0, none⟩ = some (.string p)) (c2 : w.cell? ⟨b2, 0, none⟩ = some (.string d)) :
    Calls Tryz.prog 128 #[.pointer (some ⟨t, 0, none⟩), .int .i64 (most : Nat), .pointer (some ⟨b1, 0, none⟩), .pointer (some ⟨b2, 0, none⟩)] w (EffPost t m l room most (.add p d) w) := by
  have hle := cutTo_le most d
  have HCUT := cutTo_is most d
  have H := fun (x : After w) => Lib.hid (dadd_any t m l room p (cutTo most d) x.v (R.tree.ext x.x) R.ok R.room hp (by omega))
  have HP := Lib.hid (show ∀ e w', EffPost t m l room most (.add p d) w e w' ↔ (e = .returned (.int .i64 (addE l room p (cutTo most d)).1) ∧ TreeAt w' t m (addE l room p (cutTo most d)).2 room ∧ Chg [t, m] w w') from fun e w' => Iff.rfl)
  have d1 := After.cell c1
  have d2 := After.cell c2
  have hmin : 0 ≤ min (most : Int) (d.size : Int) ∧ min (most : Int) (d.size : Int) ≤ d.size := by omega
  obtain ⟨hmin1, hmin2⟩ := hmin
  generalize cutTo most d = q at *
  generalize addE l room p q = P at *
  clear R
  go_enter Tryz.func128, Tryz.ntmps128
  go_wp2_with fail
  refine wp_region_after_tail 8 (by kernel_rfl) (by kernel_rfl) ?_
  simp only [List.take_succ_cons, List.take_zero, List.drop_succ_cons, List.drop_zero]
  repeat (go_big_quiet_step (fail))
  refine wpQuiet_nil ?_
  rintro _ ⟨y, rfl⟩
  go_wp2_with fail
  refine (H y).out.mono ?_
  rintro e w4 ⟨rfl, t4, x4⟩
  have HF := Lib.hid ((HP.out _ _).2 ⟨rfl, t4, Chg.from_ext y.x x4⟩)
  clear t4 x4
  go_wp2_with fail
  go_ret
  exact HF.out

set_option maxRecDepth 100000 in
set_option maxHeartbeats 2000000 in
theorem emkdir_any (t m : Nat) (l : Nodes) (room most : Nat) (p : ByteArray) (w : World) (R : Ready w t m l room) (hp : p.size ≤ 160) (b1 : Nat) (c1 : w.cell? ⟨b1, 0, none⟩ = some (.string p)) :
    Calls Tryz.prog 123 #[.pointer (some ⟨t, 0, none⟩), .int .i64 (most : Nat), .pointer (some ⟨b1, 0, none⟩)] w (EffPost t m l room most (.mkdir p) w) := by
  have H := Lib.hid (dlay_any t m l room p 2 0 ⟨#[]⟩ ⟨#[]⟩ w R.env R.tree R.ok R.room hp (by decide))
  have HP := Lib.hid (show ∀ e w', EffPost t m l room most (.mkdir p) w e w' ↔ (e = .returned (.int .i64 (layE l room p ⟨2, ⟨#[]⟩, ⟨#[]⟩, 0⟩).1) ∧ TreeAt w' t m (layE l room p ⟨2, ⟨#[]⟩, ⟨#[]⟩, 0⟩).2 room ∧ Chg [t, m] w w') from fun e w' => Iff.rfl)
  generalize layE l room p ⟨2, ⟨#[]⟩, ⟨#[]⟩, 0⟩ = P at *
  clear R
  go_enter Tryz.func123, Tryz.ntmps123
  go_wp2_with fail
  refine H.out.mono ?_
  rintro e w4 ⟨rfl, t4, x4⟩
  have HF := Lib.hid ((HP.out _ _).2 ⟨rfl, t4, x4⟩)
  clear t4 x4
  go_wp2_with fail
  go_ret
  exact HF.out

set_option maxRecDepth 100000 in
set_option maxHeartbeats 2000000 in
theorem elink_any (t m : Nat) (l : Nodes) (room most : Nat) (p g : ByteArray) (tm : Int) (w : World) (R : Ready w t m l room) (hp : p.size ≤ 160) (b1 b2 : Nat) (c1 : w.cell? ⟨b1, 0, none⟩ = some (.string p)) (k0 : w.cell? ⟨b2, 0, none⟩ = some (.int .i64 3)) (k1 : w.cell? ⟨b2, 1, none⟩ = some (.string ⟨#[]⟩)) (k2 : w.cell? ⟨b2, 2, none⟩ = some (.string g)) (k3 : w.cell? ⟨b2, 3, none⟩ = some (.int .i64 tm)) :
    Calls Tryz.prog 141 #[.pointer (some ⟨t, 0, none⟩), .int .i64 (most : Nat), .pointer (some ⟨b1, 0, none⟩), .pointer (some ⟨b2, 0, none⟩)] w (EffPost t m l room most (.link p g tm) w) := by
  have H := Lib.hid (dlay_any t m l room p 3 tm ⟨#[]⟩ g w R.env R.tree R.ok R.room hp (by decide))
  have HP := Lib.hid (show ∀ e w', EffPost t m l room most (.link p g tm) w e w' ↔ (e = .returned (.int .i64 (layE l room p ⟨3, ⟨#[]⟩, g, tm⟩).1) ∧ TreeAt w' t m (layE l room p ⟨3, ⟨#[]⟩, g, tm⟩).2 room ∧ Chg [t, m] w w') from fun e w' => Iff.rfl)
  generalize layE l room p ⟨3, ⟨#[]⟩, g, tm⟩ = P at *
  clear R
  go_enter Tryz.func141, Tryz.ntmps141
  go_wp2_with fail
  refine H.out.mono ?_
  rintro e w4 ⟨rfl, t4, x4⟩
  have HF := Lib.hid ((HP.out _ _).2 ⟨rfl, t4, x4⟩)
  clear t4 x4
  go_wp2_with fail
  go_ret
  exact HF.out

set_option maxRecDepth 100000 in
set_option maxHeartbeats 2000000 in
theorem erename_any (t m : Nat) (l : Nodes) (room most : Nat) (p q : ByteArray) (w : World) (R : Ready w t m l room) (hp : mayB p = true) (hq : mayB q = true) (hr : (Eff.rename p q).right = true) (b1 b2 : Nat) (c1 : w.cell? ⟨b1, 0, none⟩ = some (.string p)) (c2 : w.cell? ⟨b2, 0, none⟩ = some (.string q)) :
    Calls Tryz.prog 130 #[.pointer (some ⟨t, 0, none⟩), .int .i64 (most : Nat), .pointer (some ⟨b1, 0, none⟩), .pointer (some ⟨b2, 0, none⟩)] w (EffPost t m l room most (.rename p q) w) := by
  have H := Lib.hid (drename_any t m l room p q w R.env R.tree R.ok R.room hp hq hr)
  have HP := Lib.hid (show ∀ e w', EffPost t m l room most (.rename p q) w e w' ↔ (e = .returned (.int .i64 (renameE l p q).1) ∧ TreeAt w' t m (renameE l p q).2 room ∧ Chg [t, m] w w') from fun e w' => Iff.rfl)
  generalize renameE l p q = P at *
  clear R
  go_enter Tryz.func130, Tryz.ntmps130
  go_wp2_with fail
  refine H.out.mono ?_
  rintro e w4 ⟨rfl, t4, x4⟩
  have HF := Lib.hid ((HP.out _ _).2 ⟨rfl, t4, x4⟩)
  clear t4 x4
  go_wp2_with fail
  go_ret
  exact HF.out

set_option maxRecDepth 100000 in
set_option maxHeartbeats 2000000 in
theorem eremove_any (t m : Nat) (l : Nodes) (room most : Nat) (p : ByteArray) (w : World) (R : Ready w t m l room) (hp : p.size ≤ 160) (b1 : Nat) (c1 : w.cell? ⟨b1, 0, none⟩ = some (.string p)) :
    Calls Tryz.prog 142 #[.pointer (some ⟨t, 0, none⟩), .int .i64 (most : Nat), .pointer (some ⟨b1, 0, none⟩)] w (EffPost t m l room most (.remove p) w) := by
  have H := Lib.hid (dremove_any t m l room p w R.env R.tree R.ok R.room hp)
  have HP := Lib.hid (show ∀ e w', EffPost t m l room most (.remove p) w e w' ↔ (e = .returned (.int .i64 (removeE l p).1) ∧ TreeAt w' t m (removeE l p).2 room ∧ Chg [t, m] w w') from fun e w' => Iff.rfl)
  generalize removeE l p = P at *
  clear R
  go_enter Tryz.func142, Tryz.ntmps142
  go_wp2_with fail
  refine H.out.mono ?_
  rintro e w4 ⟨rfl, t4, x4⟩
  have HF := Lib.hid ((HP.out _ _).2 ⟨rfl, t4, x4⟩)
  clear t4 x4
  go_wp2_with fail
  go_ret
  exact HF.out

theorem enters_write : Enters Tryz.prog 125 := enters_of (fn := Tryz.f125) (by kernel_rfl) (by kernel_rfl) rfl
theorem enters_add : Enters Tryz.prog 128 := enters_of (fn := Tryz.f128) (by kernel_rfl) (by kernel_rfl) rfl
theorem enters_mkdir : Enters Tryz.prog 123 := enters_of (fn := Tryz.f123) (by kernel_rfl) (by kernel_rfl) rfl
theorem enters_link : Enters Tryz.prog 141 := enters_of (fn := Tryz.f141) (by kernel_rfl) (by kernel_rfl) rfl
theorem enters_rename : Enters Tryz.prog 130 := enters_of (fn := Tryz.f130) (by kernel_rfl) (by kernel_rfl) rfl
theorem enters_remove : Enters Tryz.prog 142 := enters_of (fn := Tryz.f142) (by kernel_rfl) (by kernel_rfl) rfl

/-- The sizes of an effect's data. -/
def Eff.few : Eff → Prop
  | .write _ d _ => d.size ≤ 4611686018427387904
  | .add _ d => d.size ≤ 4611686018427387904
  | _ => True
/-- The shape of a function value that stands for an effect. -/
theorem eff_shape {w : World} {B : List Nat} {v : Value} {x : Eff} (h : EffAt w B v x) : ∃ F cap, v = .func (.func F) #[] cap := by
  cases x <;> (first | (obtain ⟨_, _, _, rfl, _⟩ := h; exact ⟨_, _, rfl⟩) | (obtain ⟨_, _, rfl, _⟩ := h; exact ⟨_, _, rfl⟩) | (obtain ⟨_, rfl, _⟩ := h; exact ⟨_, _, rfl⟩))
/-- What a call of an effect's function value does. -/
theorem eff_calls {w : World} {B : List Nat} {F : FuncId} {cap : Array Value} {x : Eff} (h : EffAt w B (.func (.func F) #[] cap) x) (hx : EffOk x) (hf : x.few) {t m : Nat} {l : Nodes} {room most : Nat} (R : Ready w t m l room) (hm : most ≤ 1048576) :
    Enters Tryz.prog F ∧ Calls Tryz.prog F (#[.pointer (some ⟨t, 0, none⟩), .int .i64 (most : Nat)] ++ cap) w (EffPost t m l room most x w) := by
  cases x with
  | write p d tm =>
    obtain ⟨b1, b2, b3, hv, _, _, _, c1, c2, c3⟩ := h
    cases hv
    exact ⟨enters_write, ewrite_any t m l room most p d tm w R hm (mayB_size (hx.paths p (by simp [Eff.paths]))) hf b1 b2 b3 c1 c2 c3⟩
  | add p d =>
    obtain ⟨b1, b2, hv, _, _, c1, c2⟩ := h
    cases hv
    exact ⟨enters_add, eadd_any t m l room most p d w R hm (mayB_size (hx.paths p (by simp [Eff.paths]))) hf b1 b2 c1 c2⟩
  | mkdir p =>
    obtain ⟨b1, hv, _, c1⟩ := h
    cases hv
    exact ⟨enters_mkdir, emkdir_any t m l room most p w R (mayB_size (hx.paths p (by simp [Eff.paths]))) b1 c1⟩
  | link p g tm =>
    obtain ⟨b1, b2, hv, _, _, c1, k0, k1, k2, k3⟩ := h
    cases hv
    exact ⟨enters_link, elink_any t m l room most p g tm w R (mayB_size (hx.paths p (by simp [Eff.paths]))) b1 b2 c1 k0 k1 k2 k3⟩
  | rename p q =>
    obtain ⟨b1, b2, hv, _, _, c1, c2⟩ := h
    cases hv
    exact ⟨enters_rename, erename_any t m l room most p q w R (hx.paths p (by simp [Eff.paths])) (hx.paths q (by simp [Eff.paths])) hx.right b1 b2 c1 c2⟩
  | remove p =>
    obtain ⟨b1, hv, _, c1⟩ := h
    cases hv
    exact ⟨enters_remove, eremove_any t m l room most p w R (mayB_size (hx.paths p (by simp [Eff.paths]))) b1 c1⟩
end Go.Proofs.YtldppmjjgljinaaGreatDoor

namespace Go.Proofs.YtldppmjjgljinaaGreatDoor
open Go.RowKit

/-- The block of a row. -/
def rowB (v : Value) : List Nat := match v.ownBlock with | some b => [b] | none => []
theorem mem_rowB {v : Value} {b : Nat} : b ∈ rowB v ↔ v.ownBlock = some b := by
  unfold rowB
  cases v.ownBlock with
  | none => simp
  | some c => simp [eq_comm]
/-- What new blocks come to old ones. -/
def Sub (w : World) (A A' : List Nat) : Prop := ∀ b ∈ A', b ∈ A ∨ w.heap.size ≤ b
theorem Sub.refl (w : World) (A : List Nat) : Sub w A A := fun _ h => .inl h
theorem Sub.trans {w w' : World} {A B C : List Nat} (h : Sub w A B) (k : Sub w' B C) (hs : w.heap.size ≤ w'.heap.size) : Sub w A C := fun b hb => by
  rcases k b hb with h1 | h1
  · exact h b h1
  · exact .inr (Nat.le_trans hs h1)

structure DkIn (w : World) (d lt lm st sm : Nat) (lg : Value) (vs : List Value) (I : List Nat) (D : Dk) : Prop where
  blk : w.heap[d]? = some (.cells #[.pointer (some ⟨lt, 0, none⟩), .pointer (some ⟨st, 0, none⟩), lg, .bool D.fused, .int .i64 D.left] 109 (0, 0))
  live : TreeAt w lt lm D.live D.room
  lasts : TreeAt w st sm D.lasts D.room
  log : w.ownsRow 0 150 1 lg D.log.length vs
  effs : ∀ (k : Nat) v x, vs[k]? = some v → D.log[k]? = some x → EffAt w I v x ∧ x.few
  nd : [d, lt, lm, st, sm].Nodup
  lgne : ∀ b, lg.ownBlock = some b → b ∉ [d, lt, lm, st, sm]
  imm : ∀ b ∈ I, b ∉ [d, lt, lm, st, sm] ∧ lg.ownBlock ≠ some b ∧ b < w.heap.size
/-- Block d is a disk; M: what may turn; I: what stays. -/
def DkAt (w : World) (d : Nat) (M I : List Nat) (D : Dk) : Prop := ∃ lt lm st sm lg vs, DkIn w d lt lm st sm lg vs I D ∧ M = [d, lt, lm, st, sm] ++ rowB lg
/-- Behind an act. -/
structure DkStep (w : World) (M I : List Nat) (w' : World) (M' I' : List Nat) : Prop where
  chg : Chg M w w'
  m : Sub w M M'
  i : Sub w I I'
theorem DkStep.refl (w : World) (M I : List Nat) : DkStep w M I w M I := ⟨Chg.refl _ _, Sub.refl _ _, Sub.refl _ _⟩
theorem DkStep.of_ext {w w' : World} (x : Ext w w') (M I : List Nat) : DkStep w M I w' M I := ⟨x.chg _, Sub.refl _ _, Sub.refl _ _⟩
theorem DkStep.trans {a b c : World} {M I M' I' M'' I'' : List Nat} (h : DkStep a M I b M' I') (k : DkStep b M' I' c M'' I'') : DkStep a M I c M'' I'' :=
  ⟨h.chg.trans k.chg h.m, h.m.trans k.m h.chg.size, h.i.trans k.i h.chg.size⟩
theorem DkStep.ext {w0 w w' : World} {M I M' I' : List Nat} (h : DkStep w M I w' M' I') (x : Ext w0 w) (hM : ∀ b ∈ M, w0.heap.size ≤ b) : Ext w0 w' ∧ ∀ b ∈ M', w0.heap.size ≤ b :=
  ⟨h.chg.ext x hM, fun b hb => (h.m b hb).elim (hM b) fun hge => Nat.le_trans x.size hge⟩

theorem own_lt {w : World} {base k n : Nat} {e : TypeId} {v : Value} {xs : List Value} (h : w.ownsRow base e k v n xs) : ∀ b, v.ownBlock = some b → b < w.heap.size := by
  intro b hb
  rcases h.2 with ⟨rfl, _⟩ | ⟨g, cap, cur, rfl, _, hh, _⟩
  · simp [Value.ownBlock] at hb
  · simp [Value.ownBlock] at hb; subst hb; exact ltB hh
theorem DkAt.lt {w : World} {d : Nat} {M I : List Nat} {D : Dk} (h : DkAt w d M I D) : (∀ b ∈ M, b < w.heap.size) ∧ ∀ b ∈ I, b < w.heap.size := by
  obtain ⟨lt, lm, st, sm, lg, vs, h, rfl⟩ := h
  refine ⟨fun b hb => ?_, fun b hb => (h.imm b hb).2.2⟩
  rcases List.mem_append.1 hb with hb | hb
  · have h1 := lt_of_tree h.live
    have h2 := lt_of_tree h.lasts
    simp only [List.mem_cons, List.not_mem_nil, or_false] at hb
    rcases hb with rfl | rfl | rfl | rfl | rfl
    · exact ltB h.blk
    · exact h1.1
    · exact h1.2
    · exact h2.1
    · exact h2.2
  · exact own_lt h.log b (mem_rowB.1 hb)
theorem owns_blocks {w w' : World} {base k : Nat} {e : TypeId} {v : Value} {n : Nat} {xs : List Value} (h : w.ownsRow base e k v n xs) (hk : ∀ b, v.ownBlock = some b → w'.heap[b]? = w.heap[b]?) : w'.ownsRow base e k v n xs := by
  refine ⟨h.1, ?_⟩
  rcases h.2 with h1 | ⟨g, cap, cur, hv, hg, hh, hr⟩
  · exact .inl h1
  · exact .inr ⟨g, cap, cur, hv, hg, (hk g (by rw [hv]; rfl)).trans hh, hr⟩
/-- A disk whose blocks do not turn. -/
theorem DkAt.kept {w w' : World} {d : Nat} {M I : List Nat} {D : Dk} (h : DkAt w d M I D) (hs : w.heap.size ≤ w'.heap.size) (hk : ∀ b, b < w.heap.size → b ∈ M ∨ b ∈ I → w'.heap[b]? = w.heap[b]?) : DkAt w' d M I D := by
  have hlt := h.lt
  obtain ⟨lt, lm, st, sm, lg, vs, h, rfl⟩ := h
  have hm : ∀ b, b ∈ [d, lt, lm, st, sm] → w'.heap[b]? = w.heap[b]? := fun b hb => hk b (hlt.1 b (List.mem_append.2 (.inl hb))) (.inl (List.mem_append.2 (.inl hb)))
  refine ⟨lt, lm, st, sm, lg, vs, ⟨(hm d (by simp)).trans h.blk, h.live.kept (hm lt (by simp)) (hm lm (by simp)), h.lasts.kept (hm st (by simp)) (hm sm (by simp)), owns_blocks h.log fun b hb => hk b (own_lt h.log b hb) (.inl (List.mem_append.2 (.inr (mem_rowB.2 hb)))), fun k v x h1 h2 => ?_, h.nd, h.lgne, fun b hb => ⟨(h.imm b hb).1, (h.imm b hb).2.1, Nat.lt_of_lt_of_le (h.imm b hb).2.2 hs⟩⟩, rfl⟩
  obtain ⟨h3, h4⟩ := h.effs k v x h1 h2
  exact ⟨h3.turn (fun _ hb => hb) fun b hb hl => hk b hl (.inr hb), h4⟩
theorem DkAt.ext {w w' : World} {d : Nat} {M I : List Nat} {D : Dk} (h : DkAt w d M I D) (x : Ext w w') : DkAt w' d M I D := h.kept x.size fun _ hb _ => x.block hb
/-- Two things apart: what turns with the one is nothing of the other. -/
structure Apart (M I M2 I2 : List Nat) : Prop where
  mm : ∀ b ∈ M, b ∉ M2
  mi : ∀ b ∈ M, b ∉ I2
  im : ∀ b ∈ I, b ∉ M2
theorem Apart.symm {M I M2 I2 : List Nat} (h : Apart M I M2 I2) : Apart M2 I2 M I := ⟨fun b hb hb2 => h.mm b hb2 hb, fun b hb hb2 => h.im b hb2 hb, fun b hb hb2 => h.mi b hb2 hb⟩
theorem Apart.step {w w' : World} {M I M' I' M2 I2 : List Nat} (h : Apart M I M2 I2) (k : DkStep w M I w' M' I') (h1 : ∀ b ∈ M2, b < w.heap.size) (h2 : ∀ b ∈ I2, b < w.heap.size) : Apart M' I' M2 I2 :=
  ⟨fun b hb hb2 => (k.m b hb).elim (fun hm => h.mm b hm hb2) fun hge => absurd (h1 b hb2) (Nat.not_lt.2 hge), fun b hb hb2 => (k.m b hb).elim (fun hm => h.mi b hm hb2) fun hge => absurd (h2 b hb2) (Nat.not_lt.2 hge),
   fun b hb hb2 => (k.i b hb).elim (fun hm => h.im b hm hb2) fun hge => absurd (h1 b hb2) (Nat.not_lt.2 hge)⟩
theorem DkAt.step {w w' : World} {d : Nat} {M I M1 I1 M1' I1' : List Nat} {D : Dk} (h : DkAt w d M I D) (k : DkStep w M1 I1 w' M1' I1') (hA : Apart M1 I1 M I) : DkAt w' d M I D :=
  h.kept k.chg.size fun b hb hm => k.chg.block b hb fun hm1 => hm.elim (hA.mm b hm1) (hA.mi b hm1)

theorem dis_any (d : Nat) (a : Addr) (w : World) (h : w.cell? ⟨d, 0, none⟩ = some (.pointer (some a))) :
    Calls Tryz.prog 89 #[.pointer (some ⟨d, 0, none⟩)] w fun e w' => e = .returned (.bool true) ∧ w' = w := by
  go_enter Tryz.func89, Tryz.ntmps89
  go_wp2_with fail
  go_ret
  exact ⟨rfl, rfl⟩
theorem dis_nil (w : World) : Calls Tryz.prog 89 #[.pointer none] w fun e w' => e = .returned (.bool false) ∧ w' = w := by
  go_enter Tryz.func89, Tryz.ntmps89
  go_wp2_with fail
  go_ret
  exact ⟨rfl, rfl⟩
theorem dis_zero (d : Nat) (w : World) (h : w.cell? ⟨d, 0, none⟩ = some (.pointer none)) : Calls Tryz.prog 89 #[.pointer (some ⟨d, 0, none⟩)] w fun e w' => e = .returned (.bool false) ∧ w' = w := by
  go_enter Tryz.func89, Tryz.ntmps89
  go_wp2_with fail
  go_ret
  exact ⟨rfl, rfl⟩
set_option maxHeartbeats 800000 in
theorem doff_at (d : Nat) (a : Addr) (fused : Bool) (left : Int) (w : World) (h : w.cell? ⟨d, 0, none⟩ = some (.pointer (some a))) (h3 : w.cell? ⟨d, 3, none⟩ = some (.bool fused)) (h4 : w.cell? ⟨d, 4, none⟩ = some (.int .i64 left)) :
    Calls Tryz.prog 34 #[.pointer (some ⟨d, 0, none⟩)] w fun e w' => e = .returned (.bool (fused && decide (left = 0))) ∧ w' = w := by
  have H := Lib.hid (dis_any d a w h)
  clear h
  cases fused with
  | false =>
    go_enter Tryz.func34, Tryz.ntmps34
    go_wp2_with fail
    refine H.out.mono ?_
    rintro e w1 ⟨rfl, hw1⟩
    obtain rfl := hw1.symm
    go_wp2_with fail
    go_ret
    exact ⟨rfl, rfl⟩
  | true =>
    have HR := Lib.hid (show (true && decide (left = 0)) = (left == 0) from by rw [Bool.true_and]; rfl)
    cases hl : (left == 0)
    · go_enter Tryz.func34, Tryz.ntmps34
      go_wp2_with fail
      refine H.out.mono ?_
      rintro e w1 ⟨rfl, hw1⟩
      obtain rfl := hw1.symm
      go_wp2_with fail
      go_ret
      exact ⟨ret_bool (by rw [HR.out, hl]), rfl⟩
    · go_enter Tryz.func34, Tryz.ntmps34
      go_wp2_with fail
      refine H.out.mono ?_
      rintro e w1 ⟨rfl, hw1⟩
      obtain rfl := hw1.symm
      go_wp2_with fail
      go_ret
      exact ⟨ret_bool (by rw [HR.out, hl]), rfl⟩
theorem doff_any {w : World} {d : Nat} {M I : List Nat} {D : Dk} (h : DkAt w d M I D) : Calls Tryz.prog 34 #[.pointer (some ⟨d, 0, none⟩)] w fun e w' => e = .returned (.bool D.off) ∧ w' = w := by
  obtain ⟨lt, lm, st, sm, lg, vs, h, _⟩ := h
  exact doff_at d _ D.fused D.left w (cellB h.blk) (cellB h.blk) (cellB h.blk)
theorem doff_zero (d : Nat) (w : World) (h : w.cell? ⟨d, 0, none⟩ = some (.pointer none)) : Calls Tryz.prog 34 #[.pointer (some ⟨d, 0, none⟩)] w fun e w' => e = .returned (.bool false) ∧ w' = w := by
  have H := Lib.hid (dis_zero d w h)
  clear h
  go_enter Tryz.func34, Tryz.ntmps34
  go_wp2_with fail
  refine H.out.mono ?_
  rintro e w1 ⟨rfl, hw1⟩
  obtain rfl := hw1.symm
  go_wp2_with fail
  go_ret
  exact ⟨rfl, rfl⟩
theorem dclock_any (t : Int) (w : World) : Calls Tryz.prog 127 #[.int .i64 t] w fun e w' => e = .returned (.bool (clockB t)) ∧ w' = w := by
  unfold clockB
  by_cases h0 : 0 ≤ t
  · by_cases h1 : t ≤ 4294967295
    · have d0 : decide (0 ≤ t) = true := by simpa using h0
      have d1 : decide (t ≤ 4294967295) = true := by simpa using h1
      rw [d0, d1]
      go_enter Tryz.func127, Tryz.ntmps127
      go_wp2_with fail
      go_ret
      exact ⟨rfl, rfl⟩
    · have d0 : decide (0 ≤ t) = true := by simpa using h0
      have d1 : decide (t ≤ 4294967295) = false := by simpa using h1
      rw [d0, d1]
      go_enter Tryz.func127, Tryz.ntmps127
      go_wp2_with fail
      go_ret
      exact ⟨rfl, rfl⟩
  · have d0 : decide (0 ≤ t) = false := by simpa using h0
    rw [d0, Bool.false_and]
    go_enter Tryz.func127, Tryz.ntmps127
    go_wp2_with fail
    go_ret
    exact ⟨rfl, rfl⟩
end Go.Proofs.YtldppmjjgljinaaGreatDoor

namespace Go.Proofs.YtldppmjjgljinaaGreatDoor
open Go.RowKit

theorem el_effect : Elem Tryz.prog 107 150 .nilFunc 8 := ⟨by kernel_rfl, by kernel_rfl, rfl, by decide⟩

/-- Bounds of a disk that no law comes near. -/
structure DkFit (D : Dk) : Prop where
  ok : DkOk D
  len : D.log.length ≤ 1073741824
  lo : -4611686018427387904 ≤ D.left
  hi : D.left ≤ 9223372036854775807
/-- What is true behind an act. -/
def ActPost (w : World) (d : Nat) (M I : List Nat) (R : Int × Dk) (e : Ending) (w' : World) : Prop :=
  e = .returned (.int .i64 R.1) ∧ ∃ M' I', DkAt w' d M' I' R.2 ∧ DkStep w M I w' M' I'
theorem ActPost.still {w w' : World} {d : Nat} {M I : List Nat} {D : Dk} {R : Int × Dk} {n : Int} (h : DkAt w d M I D) (x : Ext w w') (hR : R = (n, D)) : ActPost w d M I R (.returned (.int .i64 n)) w' := by
  subst hR
  exact ⟨rfl, M, I, h.ext x, DkStep.of_ext x M I⟩
/-- The live tree has turned, the log and the number stand yet. -/
theorem act_fail {w w3 w4 : World} {d lt lm st sm : Nat} {lg : Value} {vs : List Value} {I : List Nat} {D : Dk} {R : Int × Dk} {n : Int} {l : Nodes} (h : DkIn w d lt lm st sm lg vs I D) (x : Ext w w3) (t4 : TreeAt w4 lt lm l D.room) (c4 : Chg [lt, lm] w3 w4) (hl : l = D.live) (hR : R = (n, D)) :
    ActPost w d ([d, lt, lm, st, sm] ++ rowB lg) I R (.returned (.int .i64 n)) w4 ∧ Chg ([d, lt, lm, st, sm] ++ rowB lg) w3 w4 := by
  subst hR
  subst hl
  have hd : DkAt w d ([d, lt, lm, st, sm] ++ rowB lg) I D := ⟨lt, lm, st, sm, lg, vs, h, rfl⟩
  have hlt := hd.lt
  have hnd := h.nd
  simp only [List.nodup_cons, List.mem_cons, List.not_mem_nil, not_or, or_false] at hnd
  obtain ⟨⟨n1, n2, n3, n4⟩, ⟨_, n5, n6⟩, ⟨n7, n8⟩, _⟩ := hnd
  have key : ∀ b, b < w.heap.size → b ≠ lt → b ≠ lm → w4.heap[b]? = w.heap[b]? := fun b hb h1 h2 => (c4.block b (Nat.lt_of_lt_of_le hb x.size) (by simp [h1, h2])).trans (x.block hb)
  have l1 := lt_of_tree h.live
  have l2 := lt_of_tree h.lasts
  refine ⟨⟨rfl, _, I, ⟨lt, lm, st, sm, lg, vs, ⟨(key d (ltB h.blk) n1 n2).trans h.blk, t4, h.lasts.kept (key st l2.1 (Ne.symm n5) (Ne.symm n7)) (key sm l2.2 (Ne.symm n6) (Ne.symm n8)), owns_blocks h.log fun b hb => key b (own_lt h.log b hb) (fun e => h.lgne b hb (by simp [e])) (fun e => h.lgne b hb (by simp [e])), fun k v y h1 h2 => ?_, h.nd, h.lgne, fun b hb => ?_⟩, rfl⟩, ⟨?_, Sub.refl _ _, Sub.refl _ _⟩⟩, c4.mono fun b hb => by simp at hb; rcases hb with rfl | rfl <;> simp⟩
  · obtain ⟨h3, h4⟩ := h.effs k v y h1 h2
    exact ⟨h3.turn (fun _ hb => hb) fun b hb hl => key b hl (fun e => (h.imm b hb).1 (by simp [e])) (fun e => (h.imm b hb).1 (by simp [e])), h4⟩
  · exact ⟨(h.imm b hb).1, (h.imm b hb).2.1, Nat.lt_of_lt_of_le (h.imm b hb).2.2 (Nat.le_trans x.size c4.size)⟩
  · exact Chg.from_ext x (c4.mono fun b hb => by simp at hb; rcases hb with rfl | rfl <;> simp)
/-- The effect was done, and is on the log. -/
theorem act_done {w w3 w4 w5 : World} {o : Obj} {d lt lm st sm : Nat} {lg lg' : Value} {vs : List Value} {I B : List Nat} {D : Dk} {R : Int × Dk} {l : Nodes} {x : Eff} {v : Value} (h : DkIn w d lt lm st sm lg vs I D) (xt : Ext w w3) (t4 : TreeAt w4 lt lm l D.room) (c4 : Chg [lt, lm] w3 w4)
    (he : EffAt w3 B v x) (hB : ∀ b ∈ B, w.heap.size ≤ b ∧ b < w3.heap.size) (hf : x.few)
    (hown : w5.ownsRow 0 150 1 lg' (D.log.length + 1) (vs ++ [v])) (hg : (w4.alloc o).grownBy w5 lg.ownBlock) (hw : lg'.ownBlock = lg.ownBlock ∨ lg'.ownBlock = some (w4.heap.size + 1))
    (hR : R = (0, { D with live := l, log := D.log ++ [x], left := D.left - 1 })) :
    ActPost w d ([d, lt, lm, st, sm] ++ rowB lg) I R (.returned (.int .i64 0)) ((w5.setCell ⟨d, 2, none⟩ lg').setCell ⟨d, 4, none⟩ (.int .i64 (D.left - 1))) ∧
    Chg ([d, lt, lm, st, sm] ++ rowB lg) w3 ((w5.setCell ⟨d, 2, none⟩ lg').setCell ⟨d, 4, none⟩ (.int .i64 (D.left - 1))) := by
  subst hR
  have hd : DkAt w d ([d, lt, lm, st, sm] ++ rowB lg) I D := ⟨lt, lm, st, sm, lg, vs, h, rfl⟩
  have hnd := h.nd
  simp only [List.nodup_cons, List.mem_cons, List.not_mem_nil, not_or, or_false] at hnd
  obtain ⟨⟨n1, n2, n3, n4⟩, ⟨_, n5, n6⟩, ⟨n7, n8⟩, _⟩ := hnd
  have hs4 : w.heap.size ≤ w4.heap.size := Nat.le_trans xt.size c4.size
  have hs5 : w4.heap.size + 1 ≤ w5.heap.size := by have := hg.size; rwa [size_alloc] at this
  have key4 : ∀ b, b < w.heap.size → b ≠ lt → b ≠ lm → w4.heap[b]? = w.heap[b]? := fun b hb h1 h2 => (c4.block b (Nat.lt_of_lt_of_le hb xt.size) (by simp [h1, h2])).trans (xt.block hb)
  have key5 : ∀ b, b < w4.heap.size → lg.ownBlock ≠ some b → w5.heap[b]? = w4.heap[b]? := fun b hb hn => (hg.block b (by rw [size_alloc]; omega) (Ne.symm hn)).trans (block_alloc_old hb)
  have hlg : ∀ b, b ∈ [d, lt, lm, st, sm] → lg.ownBlock ≠ some b := fun b hb e => h.lgne b e hb
  have keyN : ∀ b, b ≠ d → ((w5.setCell ⟨d, 2, none⟩ lg').setCell ⟨d, 4, none⟩ (.int .i64 (D.left - 1))).heap[b]? = w5.heap[b]? := fun b hb => (setCellO hb).trans (setCellO hb)
  have l1 := lt_of_tree h.live
  have l2 := lt_of_tree h.lasts
  have l4 := lt_of_tree t4
  have hdl := ltB h.blk
  have hlg' : ∀ b, lg'.ownBlock = some b → lg.ownBlock = some b ∨ w.heap.size ≤ b := fun b hb => hw.elim (fun e => .inl (e ▸ hb)) fun e => .inr (by rw [e] at hb; have := Option.some.inj hb; omega)
  have b5 : w5.heap[d]? = some (.cells #[.pointer (some ⟨lt, 0, none⟩), .pointer (some ⟨st, 0, none⟩), lg, .bool D.fused, .int .i64 D.left] 109 (0, 0)) := (key5 d (by omega) (hlg d (by simp))).trans ((key4 d hdl n1 n2).trans h.blk)
  have eold : ∀ b, b < w.heap.size → b ∉ [d, lt, lm, st, sm] → lg.ownBlock ≠ some b → ((w5.setCell ⟨d, 2, none⟩ lg').setCell ⟨d, 4, none⟩ (.int .i64 (D.left - 1))).heap[b]? = w.heap[b]? := fun b hb hn hl => by
    simp only [List.mem_cons, List.not_mem_nil, not_or, or_false] at hn
    exact (keyN b hn.1).trans ((key5 b (by omega) hl).trans (key4 b hb hn.2.1 hn.2.2.1))
  have hBn : ∀ b ∈ B, b ∉ [d, lt, lm, st, sm] ∧ lg.ownBlock ≠ some b := fun b hb => by
    have := (hB b hb).1
    exact ⟨fun hm => by have := hd.lt.1 b (List.mem_append.2 (.inl hm)); omega, fun e => by have := own_lt h.log b e; omega⟩
  have enew : ∀ b, b ∈ B → ((w5.setCell ⟨d, 2, none⟩ lg').setCell ⟨d, 4, none⟩ (.int .i64 (D.left - 1))).heap[b]? = w3.heap[b]? := fun b hb => by
    obtain ⟨hn, hl⟩ := hBn b hb
    simp only [List.mem_cons, List.not_mem_nil, not_or, or_false] at hn
    have h3 := (hB b hb).2
    exact (keyN b hn.1).trans ((key5 b (Nat.lt_of_lt_of_le h3 c4.size) hl).trans (c4.block b h3 (by simp [hn.2.1, hn.2.2.1])))
  have hs3 := xt.size
  have hs34 := c4.size
  have hC3 : Chg ([d, lt, lm, st, sm] ++ rowB lg) w3 ((w5.setCell ⟨d, 2, none⟩ lg').setCell ⟨d, 4, none⟩ (.int .i64 (D.left - 1))) := by
    have c5 : Chg (rowB lg) (w4.alloc o) w5 := Chg.grownO hg fun b hb => .inl (mem_rowB.2 hb)
    have c3 : Chg ([d, lt, lm, st, sm] ++ rowB lg) w3 w4 := c4.mono fun b hb => by simp at hb; rcases hb with rfl | rfl <;> simp
    have c6 := ((c3.alloc o).trans c5 fun b hb => .inl (List.mem_append.2 (.inr hb))).trans (Chg.setCell (F := [d]) w5 ⟨d, 2, none⟩ lg' (by simp)) fun b hb => .inl (by simp at hb; simp [hb])
    exact c6.trans (Chg.setCell (F := [d]) _ ⟨d, 4, none⟩ _ (by simp)) fun b hb => .inl (by simp at hb; simp [hb])
  refine ⟨⟨rfl, [d, lt, lm, st, sm] ++ rowB lg', I ++ B, ⟨lt, lm, st, sm, lg', vs ++ [v], ⟨?_, ?_, ?_, ?_, fun k u y h1 h2 => ?_, h.nd, fun b hb => ?_, fun b hb => ?_⟩, rfl⟩, ⟨?_, fun b hb => ?_, fun b hb => ?_⟩⟩, hC3⟩
  · rw [setCellB (setCellB b5)]; rfl
  · exact t4.kept ((keyN lt (Ne.symm n1)).trans (key5 lt l4.1 (hlg lt (by simp)))) ((keyN lm (Ne.symm n2)).trans (key5 lm l4.2 (hlg lm (by simp))))
  · exact h.lasts.kept ((keyN st (Ne.symm n3)).trans ((key5 st (by omega) (hlg st (by simp))).trans (key4 st l2.1 (Ne.symm n5) (Ne.symm n7)))) ((keyN sm (Ne.symm n4)).trans ((key5 sm (by omega) (hlg sm (by simp))).trans (key4 sm l2.2 (Ne.symm n6) (Ne.symm n8))))
  · rw [show ({ D with live := l, log := D.log ++ [x], left := D.left - 1 } : Dk).log.length = D.log.length + 1 from by simp]
    exact owns_blocks hown fun b hb => keyN b fun e => by
      subst e
      rcases hlg' b hb with h9 | h9
      · exact hlg b (by simp) h9
      · omega
  · have hlen : vs.length = D.log.length := by have := h.log.1; omega
    rcases Nat.lt_or_ge k vs.length with hk | hk
    · rw [List.getElem?_append_left hk] at h1
      have h2' : D.log[k]? = some y := by
        have h2 : (D.log ++ [x])[k]? = some y := h2
        rwa [List.getElem?_append_left (by omega)] at h2
      obtain ⟨h3, h4⟩ := h.effs k u y h1 h2'
      exact ⟨h3.turn (fun b hb => List.mem_append.2 (.inl hb)) fun b hb hl => eold b hl (h.imm b hb).1 (h.imm b hb).2.1, h4⟩
    · rw [List.getElem?_append_right hk] at h1
      have h2 : (D.log ++ [x])[k]? = some y := h2
      rw [List.getElem?_append_right (by omega)] at h2
      have k0 : k - vs.length = 0 := by
        have := (List.getElem?_eq_some_iff.1 h1).1
        simp at this; omega
      rw [k0] at h1
      rw [show k - D.log.length = 0 from by omega] at h2
      simp at h1 h2
      subst h1
      subst h2
      exact ⟨he.turn (fun b hb => List.mem_append.2 (.inr hb)) fun b hb hl => enew b hb, hf⟩
  · intro hm
    rcases hlg' b hb with h9 | h9
    · exact h.lgne b h9 hm
    · have := hd.lt.1 b (List.mem_append.2 (.inl hm)); omega
  · rcases List.mem_append.1 hb with hb | hb
    · have hbb := h.imm b hb
      refine ⟨hbb.1, fun e => ?_, ?_⟩
      · rcases hlg' b e with h9 | h9
        · exact hbb.2.1 h9
        · have := hbb.2.2; omega
      · have := hbb.2.2; simp; omega
    · obtain ⟨hn, hl⟩ := hBn b hb
      have h3 := (hB b hb).2
      refine ⟨hn, fun e => ?_, ?_⟩
      · rcases hw with h9 | h9
        · exact hl (h9 ▸ e)
        · rw [h9] at e
          have := Option.some.inj e
          omega
      · simp; omega
  · exact Chg.from_ext xt hC3
  · rcases List.mem_append.1 hb with hb | hb
    · exact .inl (List.mem_append.2 (.inl hb))
    · rcases hlg' b (mem_rowB.1 hb) with h9 | h9
      · exact .inl (List.mem_append.2 (.inr (mem_rowB.2 h9)))
      · exact .inr h9
  · rcases List.mem_append.1 hb with hb | hb
    · exact .inl hb
    · exact .inr (hB b hb).1
/-- As ActPost, with a word on the world of the call. -/
def ActPost2 (w0 w : World) (d : Nat) (M I : List Nat) (R : Int × Dk) (e : Ending) (w' : World) : Prop := ActPost w0 d M I R e w' ∧ Chg M w w'
theorem ActPost2.still {w0 w w' : World} {d : Nat} {M I : List Nat} {D : Dk} {R : Int × Dk} {n : Int} (h : DkAt w0 d M I D) (x0 : Ext w0 w) (x : Ext w w') (hR : R = (n, D)) : ActPost2 w0 w d M I R (.returned (.int .i64 n)) w' := ⟨ActPost.still h (x0.trans x) hR, x.chg M⟩
end Go.Proofs.YtldppmjjgljinaaGreatDoor
