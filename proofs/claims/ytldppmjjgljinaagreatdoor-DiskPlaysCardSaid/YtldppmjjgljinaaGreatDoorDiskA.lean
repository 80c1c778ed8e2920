/- A disk's effects as function values: what each has captured; what a call of one does to a tree. -/
import Derived.Test.YtldppmjjgljinaaGreatDoorTreeI
namespace Go.Proofs.YtldppmjjgljinaaGreatDoor
open Go.RowKit

/-- A function value that stands for an effect; what it has captured lies in blocks of B. -/
def EffAt (w : World) (B : List Nat) (v : Value) : Eff → Prop
  | .write p d t => ∃ b1 b2 b3, v = .func (.func 125) #[] #[.pointer (some ⟨b1, 0, none⟩), .pointer (some ⟨b2, 0, none⟩), .pointer (some ⟨b3, 0, none⟩)] ∧ b1 ∈ B ∧ b2 ∈ B ∧ b3 ∈ B ∧
      w.cell? ⟨b1, 0, none⟩ = some (.string p) ∧ w.cell? ⟨b2, 0, none⟩ = some (.string d) ∧ w.cell? ⟨b3, 0, none⟩ = some (.int .i64 t)
  | .add p d => ∃ b1 b2, v = .func (.func 128) #[] #[.pointer (some ⟨b1, 0, none⟩), .pointer (some ⟨b2, 0, none⟩)] ∧ b1 ∈ B ∧ b2 ∈ B ∧ w.cell? ⟨b1, 0, none⟩ = some (.string p) ∧ w.cell? ⟨b2, 0, none⟩ = some (.string d)
  | .mkdir p => ∃ b1, v = .func (.func 123) #[] #[.pointer (some ⟨b1, 0, none⟩)] ∧ b1 ∈ B ∧ w.cell? ⟨b1, 0, none⟩ = some (.string p)
  | .link p g t => ∃ b1 b2, v = .func (.func 141) #[] #[.pointer (some ⟨b1, 0, none⟩), .pointer (some ⟨b2, 0, none⟩)] ∧ b1 ∈ B ∧ b2 ∈ B ∧ w.cell? ⟨b1, 0, none⟩ = some (.string p) ∧
      w.cell? ⟨b2, 0, none⟩ = some (.int .i64 3) ∧ w.cell? ⟨b2, 1, none⟩ = some (.string ⟨#[]⟩) ∧ w.cell? ⟨b2, 2, none⟩ = some (.string g) ∧ w.cell? ⟨b2, 3, none⟩ = some (.int .i64 t)
  | .rename p q => ∃ b1 b2, v = .func (.func 130) #[] #[.pointer (some ⟨b1, 0, none⟩), .pointer (some ⟨b2, 0, none⟩)] ∧ b1 ∈ B ∧ b2 ∈ B ∧ w.cell? ⟨b1, 0, none⟩ = some (.string p) ∧ w.cell? ⟨b2, 0, none⟩ = some (.string q)
  | .remove p => ∃ b1, v = .func (.func 142) #[] #[.pointer (some ⟨b1, 0, none⟩)] ∧ b1 ∈ B ∧ w.cell? ⟨b1, 0, none⟩ = some (.string p)
theorem EffAt.turn {w w' : World} {B B' : List Nat} {v : Value} {x : Eff} (h : EffAt w B v x) (hB : ∀ b ∈ B, b ∈ B') (hk : ∀ b ∈ B, b < w.heap.size → w'.heap[b]? = w.heap[b]?) : EffAt w' B' v x := by
  have key : ∀ (b o : Nat) (u : Value), b ∈ B → w.cell? ⟨b, o, none⟩ = some u → w'.cell? ⟨b, o, none⟩ = some u := fun b o u hb hc => (World.cell?_of_block (hk b hb (lt_of_cell hc))).trans hc
  cases x with
  | write p d t =>
    obtain ⟨b1, b2, b3, hv, m1, m2, m3, c1, c2, c3⟩ := h
    exact ⟨b1, b2, b3, hv, hB _ m1, hB _ m2, hB _ m3, key _ _ _ m1 c1, key _ _ _ m2 c2, key _ _ _ m3 c3⟩
  | add p d =>
    obtain ⟨b1, b2, hv, m1, m2, c1, c2⟩ := h
    exact ⟨b1, b2, hv, hB _ m1, hB _ m2, key _ _ _ m1 c1, key _ _ _ m2 c2⟩
  | mkdir p =>
    obtain ⟨b1, hv, m1, c1⟩ := h
    exact ⟨b1, hv, hB _ m1, key _ _ _ m1 c1⟩
  | link p g t =>
    obtain ⟨b1, b2, hv, m1, m2, c1, c2, c3, c4, c5⟩ := h
    exact ⟨b1, b2, hv, hB _ m1, hB _ m2, key _ _ _ m1 c1, key _ _ _ m2 c2, key _ _ _ m2 c3, key _ _ _ m2 c4, key _ _ _ m2 c5⟩
  | rename p q =>
    obtain ⟨b1, b2, hv, m1, m2, c1, c2⟩ := h
    exact ⟨b1, b2, hv, hB _ m1, hB _ m2, key _ _ _ m1 c1, key _ _ _ m2 c2⟩
  | remove p =>
    obtain ⟨b1, hv, m1, c1⟩ := h
    exact ⟨b1, hv, hB _ m1, key _ _ _ m1 c1⟩
theorem cutTo_is (most : Nat) (d : ByteArray) : d.extract 0 (min (most : Int) (d.size : Int)).toNat = cutTo most d := by
  unfold cutTo
  rw [show (min (most : Int) (d.size : Int)).toNat = min most d.size from by omega]
theorem cutTo_le (most : Nat) (d : ByteArray) : (cutTo most d).size ≤ most := by unfold cutTo; simp; omega

/-- A tree at hand, and what an effect asks of it. -/
structure Ready (w : World) (t m : Nat) (l : Nodes) (room : Nat) : Prop where
  env : Env w
  tree : TreeAt w t m l room
  ok : TreeOk l room
  room : room ≤ 1048576
theorem Ready.ext {w w' : World} {t m : Nat} {l : Nodes} {room : Nat} (R : Ready w t m l room) (x : Ext w w') : Ready w' t m l room := ⟨R.env.ext x, R.tree.ext x, R.ok, R.room⟩
/-- What a call of an effect does. -/
def EffPost (t m : Nat) (l : Nodes) (room most : Nat) (x : Eff) (w : World) (e : Ending) (w' : World) : Prop :=
  e = .returned (.int .i64 (effE l room most x).1) ∧ TreeAt w' t m (effE l room most x).2 room ∧ Chg [t, m] w w'

set_option maxRecDepth 100000 in
set_option maxHeartbeats 2000000 in
theorem ewrite_any (t m : Nat) (l : Nodes) (room most : Nat) (p d : ByteArray) (tm : Int) (w : World) (R : Ready w t m l room) (hm : most ≤ 1048576) (hp : p.size ≤ 160) (hd : d.size ≤ 4611686018427387904) (b1 b2 b3 : Nat) (c1 : w.cell? ⟨b1, 0, none⟩ = some (.string p)) (c2 : w.cell? ⟨b2, 0, none⟩ = some (.string d)) (c3 : w.cell? ⟨b3, 0, none⟩ = some (.int .i64 tm)) :
    Calls Tryz.prog 125 #[.pointer (some ⟨t, 0, none⟩), .int .i64 (most : Nat), .pointer (some ⟨b1, 0, none⟩), .pointer (some ⟨b2, 0, none⟩), .pointer (some ⟨b3, 0, none⟩)] w (EffPost t m l room most (.write p d tm) w) := by
  have hle := cutTo_le most d
  have HCUT := cutTo_is most d
  have H := fun (x : After w) => Lib.hid (dwrite_any t m l room p (cutTo most d) tm x.v (R.env.ext x.x) (R.tree.ext x.x) R.ok R.room hp (by omega))
  have HP := Lib.hid (show ∀ e w', EffPost t m l room most (.write p d tm) w e w' ↔ (e = .returned (.int .i64 (writeE l room p (cutTo most d) tm).1) ∧ TreeAt w' t m (writeE l room p (cutTo most d) tm).2 room ∧ Chg [t, m] w w') from fun e w' => Iff.rfl)
  have d1 := After.cell c1
  have d2 := After.cell c2
  have d3 := After.cell c3
  have hmin : 0 ≤ min (most : Int) (d.size : Int) ∧ min (most : Int) (d.size : Int) ≤ d.size := by omega
  obtain ⟨hmin1, hmin2⟩ := hmin
  generalize cutTo most d = q at *
  generalize writeE l room p q tm = P at *
  clear R
  go_enter Tryz.func125, Tryz.ntmps125
  go_wp2_with fail
  refine wp_region_after_tail 9 (by kernel_rfl) (by kernel_rfl) ?_
  simp only [List.take_succ_cons, List.take_zero, List.drop_succ_cons, List.drop_zero]
  repeat (go_big_quiet_step (fail))
  refine wpQuiet_nil ?_
  rintro _ ⟨y, rfl⟩
  go_wp2_with fail
  refine (H y).out.mono ?_
  rintro e w4 ⟨rfl, t4, x4⟩
  have HF := Lib.hid ((HP.out _ _).2 ⟨rfl, t4, Chg.from_ext y.x x4⟩)
  clear t4 x4
  go_wp2_with fail
  go_ret
  exact HF.out

set_option maxRecDepth 100000 in
set_option maxHeartbeats 2000000 in
theorem eadd_any (t m : Nat) (l : Nodes) (room most : Nat) (p d : ByteArray) (w : World) (R : Ready w t m l room) (hm : most ≤ 1048576) (hp : p.size ≤ 160) (hd : d.size ≤ 4611686018427387904) (b1 b2 : Nat) (c1 : w.cell? ⟨b1, 0, none⟩ = some (.string p)) (c2 : w.cell? ⟨b2, 0, none⟩ = some (.string d)) :
    Calls Tryz.prog 128 #[.pointer (some ⟨t, 0, none⟩), .int .i64 (most : Nat), .pointer (some ⟨b1, 0, none⟩), .pointer (some ⟨b2, 0, none⟩)] w (EffPost t m l room most (.add p d) w) := by
  have hle := cutTo_le most d
  have HCUT := cutTo_is most d
  have H := fun (x : After w) => Lib.hid (dadd_any t m l room p (cutTo most d) x.v (R.tree.ext x.x) R.ok R.room hp (by omega))
  have HP := Lib.hid (show ∀ e w', EffPost t m l room most (.add p d) w e w' ↔ (e = .returned (.int .i64 (addE l room p (cutTo most d)).1) ∧ TreeAt w' t m (addE l room p (cutTo most d)).2 room ∧ Chg [t, m] w w') from fun e w' => Iff.rfl)
  have d1 := After.cell c1
  have d2 := After.cell c2
  have hmin : 0 ≤ min (most : Int) (d.size : Int) ∧ min (most : Int) (d.size : Int) ≤ d.size := by omega
  obtain ⟨hmin1, hmin2⟩ := hmin
  generalize cutTo most d = q at *
  generalize addE l room p q = P at *
  clear R
  go_enter Tryz.func128, Tryz.ntmps128
  go_wp2_with fail
  refine wp_region_after_tail 8 (by kernel_rfl) (by kernel_rfl) ?_
  simp only [List.take_succ_cons, List.take_zero, List.drop_succ_cons, List.drop_zero]
  repeat (go_big_quiet_step (fail))
  refine wpQuiet_nil ?_
  rintro _ ⟨y, rfl⟩
  go_wp2_with fail
  refine (H y).out.mono ?_
  rintro e w4 ⟨rfl, t4, x4⟩
  have HF := Lib.hid ((HP.out _ _).2 ⟨rfl, t4, Chg.from_ext y.x x4⟩)
  clear t4 x4
  go_wp2_with fail
  go_ret
  exact HF.out

set_option maxRecDepth 100000 in
set_option maxHeartbeats 2000000 in
theorem emkdir_any (t m : Nat) (l : Nodes) (room most : Nat) (p : ByteArray) (w : World) (R : Ready w t m l room) (hp : p.size ≤ 160) (b1 : Nat) (c1 : w.cell? ⟨b1, 0, none⟩ = some (.string p)) :
    Calls Tryz.prog 123 #[.pointer (some ⟨t, 0, none⟩), .int .i64 (most : Nat), .pointer (some ⟨b1, 0, none⟩)] w (EffPost t m l room most (.mkdir p) w) := by
  have H := Lib.hid (dlay_any t m l room p 2 0 ⟨#[]⟩ ⟨#[]⟩ w R.env R.tree R.ok R.room hp (by decide))
  have HP := Lib.hid (show ∀ e w', EffPost t m l room most (.mkdir p) w e w' ↔ (e = .returned (.int .i64 (layE l room p ⟨2, ⟨#[]⟩, ⟨#[]⟩, 0⟩).1) ∧ TreeAt w' t m (layE l room p ⟨2, ⟨#[]⟩, ⟨#[]⟩, 0⟩).2 room ∧ Chg [t, m] w w') from fun e w' => Iff.rfl)
  generalize layE l room p ⟨2, ⟨#[]⟩, ⟨#[]⟩, 0⟩ = P at *
  clear R
  go_enter Tryz.func123, Tryz.ntmps123
  go_wp2_with fail
  refine H.out.mono ?_
  rintro e w4 ⟨rfl, t4, x4⟩
  have HF := Lib.hid ((HP.out _ _).2 ⟨rfl, t4, x4⟩)
  clear t4 x4
  go_wp2_with fail
  go_ret
  exact HF.out

set_option maxRecDepth 100000 in
set_option maxHeartbeats 2000000 in
theorem elink_any (t m : Nat) (l : Nodes) (room most : Nat) (p g : ByteArray) (tm : Int) (w : World) (R : Ready w t m l room) (hp : p.size ≤ 160) (b1 b2 : Nat) (c1 : w.cell? ⟨b1, 0, none⟩ = some (.string p)) (k0 : w.cell? ⟨b2, 0, none⟩ = some (.int .i64 3)) (k1 : w.cell? ⟨b2, 1, none⟩ = some (.string ⟨#[]⟩)) (k2 : w.cell? ⟨b2, 2, none⟩ = some (.string g)) (k3 : w.cell? ⟨b2, 3, none⟩ = some (.int .i64 tm)) :
    Calls Tryz.prog 141 #[.pointer (some ⟨t, 0, none⟩), .int .i64 (most : Nat), .pointer (some ⟨b1, 0, none⟩), .pointer (some ⟨b2, 0, none⟩)] w (EffPost t m l room most (.link p g tm) w) := by
  have H := Lib.hid (dlay_any t m l room p 3 tm ⟨#[]⟩ g w R.env R.tree R.ok R.room hp (by decide))
  have HP := Lib.hid (show ∀ e w', EffPost t m l room most (.link p g tm) w e w' ↔ (e = .returned (.int .i64 (layE l room p ⟨3, ⟨#[]⟩, g, tm⟩).1) ∧ TreeAt w' t m (layE l room p ⟨3, ⟨#[]⟩, g, tm⟩).2 room ∧ Chg [t, m] w w') from fun e w' => Iff.rfl)
  generalize layE l room p ⟨3, ⟨#[]⟩, g, tm⟩ = P at *
  clear R
  go_enter Tryz.func141, Tryz.ntmps141
  go_wp2_with fail
  refine H.out.mono ?_
  rintro e w4 ⟨rfl, t4, x4⟩
  have HF := Lib.hid ((HP.out _ _).2 ⟨rfl, t4, x4⟩)
  clear t4 x4
  go_wp2_with fail
  go_ret
  exact HF.out

set_option maxRecDepth 100000 in
set_option maxHeartbeats 2000000 in
theorem erename_any (t m : Nat) (l : Nodes) (room most : Nat) (p q : ByteArray) (w : World) (R : Ready w t m l room) (hp : mayB p = true) (hq : mayB q = true) (hr : (Eff.rename p q).right = true) (b1 b2 : Nat) (c1 : w.cell? ⟨b1, 0, none⟩ = some (.string p)) (c2 : w.cell? ⟨b2, 0, none⟩ = some (.string q)) :
    Calls Tryz.prog 130 #[.pointer (some ⟨t, 0, none⟩), .int .i64 (most : Nat), .pointer (some ⟨b1, 0, none⟩), .pointer (some ⟨b2, 0, none⟩)] w (EffPost t m l room most (.rename p q) w) := by
  have H := Lib.hid (drename_any t m l room p q w R.env R.tree R.ok R.room hp hq hr)
  have HP := Lib.hid (show ∀ e w', EffPost t m l room most (.rename p q) w e w' ↔ (e = .returned (.int .i64 (renameE l p q).1) ∧ TreeAt w' t m (renameE l p q).2 room ∧ Chg [t, m] w w') from fun e w' => Iff.rfl)
  generalize renameE l p q = P at *
  clear R
  go_enter Tryz.func130, Tryz.ntmps130
  go_wp2_with fail
  refine H.out.mono ?_
  rintro e w4 ⟨rfl, t4, x4⟩
  have HF := Lib.hid ((HP.out _ _).2 ⟨rfl, t4, x4⟩)
  clear t4 x4
  go_wp2_with fail
  go_ret
  exact HF.out

set_option maxRecDepth 100000 in
set_option maxHeartbeats 2000000 in
theorem eremove_any (t m : Nat) (l : Nodes) (room most : Nat) (p : ByteArray) (w : World) (R : Ready w t m l room) (hp : p.size ≤ 160) (b1 : Nat) (c1 : w.cell? ⟨b1, 0, none⟩ = some (.string p)) :
    Calls Tryz.prog 142 #[.pointer (some ⟨t, 0, none⟩), .int .i64 (most : Nat), .pointer (some ⟨b1, 0, none⟩)] w (EffPost t m l room most (.remove p) w) := by
  have H := Lib.hid (dremove_any t m l room p w R.env R.tree R.ok R.room hp)
  have HP := Lib.hid (show ∀ e w', EffPost t m l room most (.remove p) w e w' ↔ (e = .returned (.int .i64 (removeE l p).1) ∧ TreeAt w' t m (removeE l p).2 room ∧ Chg [t, m] w w') from fun e w' => Iff.rfl)
  generalize removeE l p = P at *
  clear R
  go_enter Tryz.func142, Tryz.ntmps142
  go_wp2_with fail
  refine H.out.mono ?_
  rintro e w4 ⟨rfl, t4, x4⟩
  have HF := Lib.hid ((HP.out _ _).2 ⟨rfl, t4, x4⟩)
  clear t4 x4
  go_wp2_with fail
  go_ret
  exact HF.out

theorem enters_write : Enters Tryz.prog 125 := enters_of (fn := Tryz.f125) (by kernel_rfl) (by kernel_rfl) rfl
theorem enters_add : Enters Tryz.prog 128 := enters_of (fn := Tryz.f128) (by kernel_rfl) (by kernel_rfl) rfl
theorem enters_mkdir : Enters Tryz.prog 123 := enters_of (fn := Tryz.f123) (by kernel_rfl) (by kernel_rfl) rfl
theorem enters_link : Enters Tryz.prog 141 := enters_of (fn := Tryz.f141) (by kernel_rfl) (by kernel_rfl) rfl
theorem enters_rename : Enters Tryz.prog 130 := enters_of (fn := Tryz.f130) (by kernel_rfl) (by kernel_rfl) rfl
theorem enters_remove : Enters Tryz.prog 142 := enters_of (fn := Tryz.f142) (by kernel_rfl) (by kernel_rfl) rfl

/-- The sizes of an effect's data. -/
def Eff.few : Eff → Prop
  | .write _ d _ => d.size ≤ 4611686018427387904
  | .add _ d => d.size ≤ 4611686018427387904
  | _ => True
/-- The shape of a function value that stands for an effect. -/
theorem eff_shape {w : World} {B : List Nat} {v : Value} {x : Eff} (h : EffAt w B v x) : ∃ F cap, v = .func (.func F) #[] cap := by
  cases x <;> (first | (obtain ⟨_, _, _, rfl, _⟩ := h; exact ⟨_, _, rfl⟩) | (obtain ⟨_, _, rfl, _⟩ := h; exact ⟨_, _, rfl⟩) | (obtain ⟨_, rfl, _⟩ := h; exact ⟨_, _, rfl⟩))
/-- What a call of an effect's function value does. -/
theorem eff_calls {w : World} {B : List Nat} {F : FuncId} {cap : Array Value} {x : Eff} (h : EffAt w B (.func (.func F) #[] cap) x) (hx : EffOk x) (hf : x.few) {t m : Nat} {l : Nodes} {room most : Nat} (R : Ready w t m l room) (hm : most ≤ 1048576) :
    Enters Tryz.prog F ∧ Calls Tryz.prog F (#[.pointer (some ⟨t, 0, none⟩), .int .i64 (most : Nat)] ++ cap) w (EffPost t m l room most x w) := by
  cases x with
  | write p d tm =>
    obtain ⟨b1, b2, b3, hv, _, _, _, c1, c2, c3⟩ := h
    cases hv
    exact ⟨enters_write, ewrite_any t m l room most p d tm w R hm (mayB_size (hx.paths p (by simp [Eff.paths]))) hf b1 b2 b3 c1 c2 c3⟩
  | add p d =>
    obtain ⟨b1, b2, hv, _, _, c1, c2⟩ := h
    cases hv
    exact ⟨enters_add, eadd_any t m l room most p d w R hm (mayB_size (hx.paths p (by simp [Eff.paths]))) hf b1 b2 c1 c2⟩
  | mkdir p =>
    obtain ⟨b1, hv, _, c1⟩ := h
    cases hv
    exact ⟨enters_mkdir, emkdir_any t m l room most p w R (mayB_size (hx.paths p (by simp [Eff.paths]))) b1 c1⟩
  | link p g tm =>
    obtain ⟨b1, b2, hv, _, _, c1, k0, k1, k2, k3⟩ := h
    cases hv
    exact ⟨enters_link, elink_any t m l room most p g tm w R (mayB_size (hx.paths p (by simp [Eff.paths]))) b1 b2 c1 k0 k1 k2 k3⟩
  | rename p q =>
    obtain ⟨b1, b2, hv, _, _, c1, c2⟩ := h
    cases hv
    exact ⟨enters_rename, erename_any t m l room most p q w R (hx.paths p (by simp [Eff.paths])) (hx.paths q (by simp [Eff.paths])) hx.right b1 b2 c1 c2⟩
  | remove p =>
    obtain ⟨b1, hv, _, c1⟩ := h
    cases hv
    exact ⟨enters_remove, eremove_any t m l room most p w R (mayB_size (hx.paths p (by simp [Eff.paths]))) b1 c1⟩
end Go.Proofs.YtldppmjjgljinaaGreatDoor
