/- What the laws ask of disks among others; caravanlaw09's made, is, awake. The chapter's example of a disk, reckoned in plain words. -/
import Derived.Test.YtldppmjjgljinaaGreatDoorLawDkC
import Derived.Test.YtldppmjjgljinaaGreatDoorThings
import Derived.Test.YtldppmjjgljinaaGreatDoorActP
import Derived.Test.YtldppmjjgljinaaGreatDoorDiskI
import Derived.KernelRfl
namespace Go.Proofs.YtldppmjjgljinaaGreatDoor
open Go.RowKit

section
variable {w0 w : World} {A B : List Thing} {d : Nat} {D : Dk}
theorem disk_ext {F : FuncId} {args : Array Value} {P : Ending → World → Prop} (h : Things w0 w (A ++ .disk d D :: B)) (hc : ∀ M I, DkAt w d M I D → Calls Tryz.prog F args w P) : Calls Tryz.prog F args w P := by
  obtain ⟨M, I, h1, _⟩ := h.opened
  exact hc M I h1
theorem read_many (h : Things w0 w (A ++ .disk d D :: B)) (E : Env w) (p : ByteArray) (hp : p.size < 4294967281) :
    Calls Tryz.prog 29 #[.pointer (some ⟨d, 0, none⟩), .string p] w fun e w' => e = .returned (.tuple #[nv (readE D.live p).1, .int .i64 (readE D.live p).2]) ∧ Ext w w' := disk_ext h fun _ _ hd => Read_any hd E p hp
theorem paths_many (h : Things w0 w (A ++ .disk d D :: B)) (O : DkOk D) : Calls Tryz.prog 28 #[.pointer (some ⟨d, 0, none⟩)] w (PathsPost w D.live) := disk_ext h fun _ _ hd => Paths_any hd O
theorem used_many (h : Things w0 w (A ++ .disk d D :: B)) : Calls Tryz.prog 32 #[.pointer (some ⟨d, 0, none⟩)] w fun e w' => e = .returned (.int .i64 (usedL D.live : Nat)) ∧ w' = w := disk_ext h fun _ _ hd => Used_any hd
theorem room_many (h : Things w0 w (A ++ .disk d D :: B)) : Calls Tryz.prog 33 #[.pointer (some ⟨d, 0, none⟩)] w fun e w' => e = .returned (.int .i64 (D.room : Nat)) ∧ w' = w := disk_ext h fun _ _ hd => Room_any hd
theorem pending_many (h : Things w0 w (A ++ .disk d D :: B)) (O : DkFit D) : Calls Tryz.prog 37 #[.pointer (some ⟨d, 0, none⟩)] w fun e w' => e = .returned (.int .i64 (D.log.length : Nat)) ∧ w' = w := disk_ext h fun _ _ hd => Pending_any hd O
theorem off_many (h : Things w0 w (A ++ .disk d D :: B)) : Calls Tryz.prog 34 #[.pointer (some ⟨d, 0, none⟩)] w fun e w' => e = .returned (.bool D.off) ∧ w' = w := disk_ext h fun _ _ hd => doff_any hd
theorem new_many (h : Things w0 w A) (room : Nat) (h1 : 1024 ≤ room) (h2 : room ≤ 1048576) :
    Calls Tryz.prog 41 #[.int .i64 (room : Nat)] w fun e w' => ∃ d, e = .returned (.tuple #[.pointer (some ⟨d, 0, none⟩), .int .i64 0]) ∧ Things w0 w' (A ++ [.disk d (Dk.made room)]) := by
  refine (New_ok room w h1 h2).mono ?_
  rintro e w' ⟨d, M, he, h3, h4, h5⟩
  exact ⟨d, he, h.add h4 h3 h5 fun _ hb => (by cases hb)⟩
theorem copy_many (h : Things w0 w (A ++ .disk d D :: B)) (O : DkFit D) :
    Calls Tryz.prog 38 #[.pointer (some ⟨d, 0, none⟩)] w fun e w' => ∃ c, e = .returned (.pointer (some ⟨c, 0, none⟩)) ∧ Things w0 w' (A ++ .disk d D :: B ++ [.disk c D]) := by
  obtain ⟨M, I, h1, h2⟩ := h.copy
  refine (Copy_any h1 O).mono ?_
  rintro e w' ⟨c, M', he, h3, h4, h5⟩
  exact ⟨c, he, h2 w' c M' h4 h3 h5⟩
variable (h : Things w0 w (A ++ .disk d D :: B)) (O : DkFit D)
include h O
omit O in
theorem act_mk {x : Eff} {r : Int} {D' : Dk} (hR : D.act x = (r, D')) {F : FuncId} {args : Array Value} (hc : ∀ M I, DkAt w d M I D → Calls Tryz.prog F args w (ActPost w d M I (D.act x))) :
    Calls Tryz.prog F args w fun e w' => e = .returned (.int .i64 r) ∧ Things w0 w' (A ++ .disk d D' :: B) := by
  have := act_many (R := D.act x) h fun M I h1 _ => hc M I h1
  rw [hR] at this
  exact this
theorem mkdir_many (E : Env w) (p : ByteArray) (hp : p.size < 4294967281) {r : Int} {D' : Dk} (hR : D.act (.mkdir p) = (r, D')) :
    Calls Tryz.prog 57 #[.pointer (some ⟨d, 0, none⟩), .string p] w fun e w' => e = .returned (.int .i64 r) ∧ Things w0 w' (A ++ .disk d D' :: B) := act_mk h hR fun _ _ hd => Mkdir_any hd O E p hp
theorem remove_many (E : Env w) (p : ByteArray) (hp : p.size < 4294967281) {r : Int} {D' : Dk} (hR : D.act (.remove p) = (r, D')) :
    Calls Tryz.prog 65 #[.pointer (some ⟨d, 0, none⟩), .string p] w fun e w' => e = .returned (.int .i64 r) ∧ Things w0 w' (A ++ .disk d D' :: B) := act_mk h hR fun _ _ hd => Remove_any hd O E p hp
theorem append_many (E : Env w) (p a : ByteArray) (hp : p.size < 4294967281) (ha : a.size ≤ 4611686018427387904) {r : Int} {D' : Dk} (hR : D.act (.add p a) = (r, D')) :
    Calls Tryz.prog 59 #[.pointer (some ⟨d, 0, none⟩), .string p, .string a] w fun e w' => e = .returned (.int .i64 r) ∧ Things w0 w' (A ++ .disk d D' :: B) := act_mk h hR fun _ _ hd => Append_any hd O E p a hp ha
theorem write_many (E : Env w) (p a : ByteArray) (t : Int) (hp : p.size < 4294967281) (ha : a.size ≤ 4611686018427387904) {r : Int} {D' : Dk} (hR : D.act (.write p a t) = (r, D')) :
    Calls Tryz.prog 58 #[.pointer (some ⟨d, 0, none⟩), .string p, .string a, .int .i64 t] w fun e w' => e = .returned (.int .i64 r) ∧ Things w0 w' (A ++ .disk d D' :: B) := act_mk h hR fun _ _ hd => Write_any hd O E p a t hp ha
theorem link_many (E : Env w) (p a : ByteArray) (t : Int) (hp : p.size < 4294967281) (ha : a.size ≤ 4611686018427387904) {r : Int} {D' : Dk} (hR : D.act (.link p a t) = (r, D')) :
    Calls Tryz.prog 64 #[.pointer (some ⟨d, 0, none⟩), .string p, .string a, .int .i64 t] w fun e w' => e = .returned (.int .i64 r) ∧ Things w0 w' (A ++ .disk d D' :: B) := act_mk h hR fun _ _ hd => Link_any hd O E p a t hp ha
theorem rename_many (E : Env w) (p q : ByteArray) (hp : p.size < 4294967280) (hq : q.size < 4294967281) {r : Int} {D' : Dk} (hR : D.act (.rename p q) = (r, D')) :
    Calls Tryz.prog 60 #[.pointer (some ⟨d, 0, none⟩), .string p, .string q] w fun e w' => e = .returned (.int .i64 r) ∧ Things w0 w' (A ++ .disk d D' :: B) := act_mk h hR fun _ _ hd => Rename_any hd O E p q hp hq
theorem sync_many {r : Int} {D' : Dk} (hR : D.sync = (r, D')) :
    Calls Tryz.prog 36 #[.pointer (some ⟨d, 0, none⟩)] w fun e w' => e = .returned (.int .i64 r) ∧ Things w0 w' (A ++ .disk d D' :: B) := by
  have := act_many (R := D.sync) h fun _ _ h1 _ => Sync_any h1 O
  rw [hR] at this
  exact this
omit O in
theorem fuse_many (n : Int) {r : Int} {D' : Dk} (hR : D.fuse n = (r, D')) :
    Calls Tryz.prog 66 #[.pointer (some ⟨d, 0, none⟩), .int .i64 n] w fun e w' => e = .returned (.int .i64 r) ∧ Things w0 w' (A ++ .disk d D' :: B) := by
  have := act_many (R := D.fuse n) h fun _ _ h1 _ => Fuse_any h1 n
  rw [hR] at this
  exact this
theorem crash_many (E : Env w0) (pv : Value) (ks : List UInt8) (hp : ∀ M, (∀ b ∈ M, w0.heap.size ≤ b) → PicksAt w M pv ks) {D' : Dk} (hR : D.crash ks = D') :
    Calls Tryz.prog 35 #[.pointer (some ⟨d, 0, none⟩), pv] w fun e w' => e = .returned (.int .i64 0) ∧ Things w0 w' (A ++ .disk d D' :: B) := by
  subst hR
  exact act_many (R := (0, D.crash ks)) h fun M _ h1 h2 => Crash_any h1 O E h.is_ext h2 pv ks (hp M h2)
omit O h in
/-- A crash by picks that were made behind all disks. -/
theorem crash_own {wb : World} (hb : Things w0 wb (A ++ .disk d D :: B)) (x : Ext wb w) (O : DkFit D) (E : Env w0) (pv : Value) (ks : List UInt8) (hp : ∀ M, (∀ b ∈ M, b < wb.heap.size) → PicksAt w M pv ks) {D' : Dk} (hR : D.crash ks = D') :
    Calls Tryz.prog 35 #[.pointer (some ⟨d, 0, none⟩), pv] w fun e w' => e = .returned (.int .i64 0) ∧ Things w0 w' (A ++ .disk d D' :: B) := by
  subst hR
  obtain ⟨M, I, h1, h2, h3⟩ := hb.opened
  refine (Crash_any (DkAt.ext h1 x) O E (hb.is_ext.trans x) h2 pv ks (hp M h1.lt.1)).mono ?_
  rintro e w' ⟨he, M', I', h4, h5⟩
  exact ⟨he, h3 w' M' I' (.disk d (D.crash ks)) h4 ((DkStep.of_ext x M I).trans h5)⟩
theorem do_many (E : Env w0) (a : ActR) (hA : ActFit a) (pv : Value) (hp : BytesIn w0 pv a.picks) :
    Calls Tryz.prog 40 #[.pointer (some ⟨d, 0, none⟩), .agg #[.int .i64 a.kind, .string a.p, .string a.q, .string a.text, .int .i64 a.long, .int .i64 a.time, pv]] w
      fun e w' => e = .returned (.int .i64 (D.doA a).1) ∧ Things w0 w' (A ++ .disk d (D.doA a).2 :: B) :=
  act_many (R := D.doA a) h fun _ _ h1 h2 => ldo_any h1 O E h.is_ext h2 a hA pv hp
end
end Go.Proofs.YtldppmjjgljinaaGreatDoor

namespace Go.Proofs.YtldppmjjgljinaaGreatDoor
open Go.RowKit

def sa : ByteArray := ⟨#[97]⟩
def sab : ByteArray := ⟨#[97, 47, 98]⟩
def k1 : Dk := ⟨[(⟨#[97]⟩, ⟨2, emp, emp, 0⟩)], [], 1024, [.mkdir ⟨#[97]⟩], false, -1⟩
def k2 : Dk := ⟨[(⟨#[97]⟩, ⟨2, emp, emp, 0⟩), (⟨#[97, 47, 98]⟩, ⟨1, ⟨#[120]⟩, emp, 1⟩)], [], 1024, [.mkdir ⟨#[97]⟩, .write ⟨#[97, 47, 98]⟩ ⟨#[120]⟩ 1], false, -2⟩
def k3 : Dk := ⟨[(⟨#[97]⟩, ⟨2, emp, emp, 0⟩), (⟨#[97, 47, 98]⟩, ⟨1, ⟨#[120, 121]⟩, emp, 1⟩)], [], 1024, [.mkdir ⟨#[97]⟩, .write ⟨#[97, 47, 98]⟩ ⟨#[120]⟩ 1, .add ⟨#[97, 47, 98]⟩ ⟨#[121]⟩], false, -3⟩
theorem kx1 : (Dk.made 1024).act (.mkdir ⟨#[97]⟩) = (0, k1) := by kernel_rfl
theorem kx2 : k1.act (.write ⟨#[97, 47, 98]⟩ ⟨#[120]⟩ 1) = (0, k2) := by kernel_rfl
theorem kx3 : k2.act (.add ⟨#[97, 47, 98]⟩ ⟨#[121]⟩) = (0, k3) := by kernel_rfl
theorem ky1 : readE k3.live ⟨#[97, 47, 98]⟩ = (⟨1, ⟨#[120, 121]⟩, emp, 1⟩, 0) := by kernel_rfl
theorem ky2 : k3.act (.mkdir ⟨#[97]⟩) = (6, k3) := by kernel_rfl
theorem ky3 : k3.act (.write ⟨#[99, 47, 98]⟩ ⟨#[]⟩ 1) = (5, k3) := by kernel_rfl
theorem ky4 : k3.act (.remove ⟨#[97]⟩) = (22, k3) := by kernel_rfl
theorem ky5 : usedL k3.live = 130 := by kernel_rfl
theorem DkRun.did {k : Nat} {D D' : Dk} {x : Eff} {r : Int} (R : DkRun k D) (h : D.act x = (r, D')) : DkRun (k + 1) D' := by
  have := R.act x
  rw [h] at this
  exact this
theorem kr0 : DkRun 0 (Dk.made 1024) := DkRun.made (by decide) (by decide)
theorem kr1 : DkRun 1 k1 := kr0.did kx1
theorem kr2 : DkRun 2 k2 := kr1.did kx2
theorem kr3 : DkRun 3 k3 := kr2.did kx3
end Go.Proofs.YtldppmjjgljinaaGreatDoor
