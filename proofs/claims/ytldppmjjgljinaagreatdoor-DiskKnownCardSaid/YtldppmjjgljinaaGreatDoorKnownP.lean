/- The chapter's examples of disks, and disks at their limits, reckoned in plain words. -/
import Derived.Test.YtldppmjjgljinaaGreatDoorLawDkD
import Derived.Lib.Repeat
namespace Go.Proofs.YtldppmjjgljinaaGreatDoor
open Go.RowKit

def xs (n : Nat) : ByteArray := ⟨(Lib.repeatL [120] n).toArray⟩
theorem xs_size (n : Nat) : (xs n).size = n := by
  unfold xs
  rw [size_mk, List.size_toArray]
  induction n with
  | zero => rfl
  | succ k ih => rw [show Lib.repeatL [120] (k + 1) = [120] ++ Lib.repeatL [120] k from rfl, List.length_append, ih]; simp; omega
theorem cutTo_id {most : Nat} {d : ByteArray} (h : d.size ≤ most) : cutTo most d = d := by
  apply ba_ext
  unfold cutTo
  rw [toList_extract, List.drop_zero, List.take_of_length_le (by rw [len_toList]; omega)]
theorem act_of {D : Dk} {x : Eff} {r : Int} {l : Nodes} (hoff : D.off = false) (hp : x.paths.all mayB = true) (hr : x.right = true) (he : effE D.live D.room full x = (r, l)) :
    D.act x = if r = 0 then (0, { D with live := l, log := D.log ++ [x], left := D.left - 1 }) else (r, D) := by
  unfold Dk.act
  rw [hoff, if_neg (by decide), if_pos hp, if_pos hr, he]
theorem write_full {l : Nodes} {room U : Nat} {p c : ByteArray} {t : Int} (hh : homeE l p = 0) (hf : fileE l p = 0) (hi : insS l p ⟨1, c, emp, t⟩ = l ++ [(p, ⟨1, c, emp, t⟩)]) (hu : usedL l = U) (hs : c.size ≤ 1048576) (hr : room < U + 64 + c.size) : effE l room full (.write p c t) = (7, l) := by
  show writeE l room p (cutTo full c) t = _
  rw [cutTo_id (show c.size ≤ full from hs)]
  unfold writeE
  rw [hh, hf, if_pos rfl, if_pos rfl]
  unfold putE
  rw [hi, usedL_append, hu, if_neg (by show ¬ U + (64 + c.size + 0) ≤ room; omega)]
theorem write_fits {l l' : Nodes} {room : Nat} {p c : ByteArray} {t : Int} (hh : homeE l p = 0) (hf : fileE l p = 0) (hi : insS l p ⟨1, c, emp, t⟩ = l') (hs : c.size ≤ 1048576) (hr : usedL l' ≤ room) : effE l room full (.write p c t) = (0, l') := by
  show writeE l room p (cutTo full c) t = _
  rw [cutTo_id (show c.size ≤ full from hs)]
  unfold writeE
  rw [hh, hf, if_pos rfl, if_pos rfl]
  unfold putE
  rw [hi, if_pos hr]
theorem DkRun.synced {k : Nat} {D D' : Dk} {r : Int} (R : DkRun k D) (h : D.sync = (r, D')) : DkRun (k + 1) D' := by
  have := R.sync
  rw [h] at this
  exact this
theorem DkRun.fused {k : Nat} {D D' : Dk} {n r : Int} (R : DkRun k D) (h : D.fuse n = (r, D')) (hn : n ≤ 9223372036854775807) : DkRun (k + 1) D' := by
  have := R.fuse hn
  rw [h] at this
  exact this
theorem DkRun.crashed {k : Nat} {D D' : Dk} {ks : List UInt8} (R : DkRun k D) (h : D.crash ks = D') : DkRun (k + 1) D' := h ▸ R.crash ks
theorem ne0 : Dk.act k3 (.mkdir ⟨#[97, 47, 98, 47, 99]⟩) = (12, k3) := by kernel_rfl
theorem nr0 : DkRun 4 k3 := DkRun.did kr3 ne0
theorem ne1 : Dk.act k3 (.write ⟨#[97]⟩ ⟨#[]⟩ 1) = (12, k3) := by kernel_rfl
theorem nr1 : DkRun 5 k3 := DkRun.did nr0 ne1
theorem ne2 : Dk.act k3 (.add ⟨#[97]⟩ ⟨#[]⟩) = (12, k3) := by kernel_rfl
theorem nr2 : DkRun 6 k3 := DkRun.did nr1 ne2
theorem ne3 : Dk.act k3 (.rename ⟨#[97]⟩ ⟨#[97, 47, 99]⟩) = (2, k3) := by kernel_rfl
theorem nr3 : DkRun 7 k3 := DkRun.did nr2 ne3
def nd1 : Dk := ⟨[(⟨#[100]⟩, ⟨2, ⟨#[]⟩, ⟨#[]⟩, 0⟩), (⟨#[100, 47, 98]⟩, ⟨1, ⟨#[120, 121]⟩, ⟨#[]⟩, 1⟩)], [], 1024, [.mkdir ⟨#[97]⟩, .write ⟨#[97, 47, 98]⟩ ⟨#[120]⟩ 1, .add ⟨#[97, 47, 98]⟩ ⟨#[121]⟩, .rename ⟨#[97]⟩ ⟨#[100]⟩], false, (-4)⟩
theorem ne4 : Dk.act k3 (.rename ⟨#[97]⟩ ⟨#[100]⟩) = (0, nd1) := by kernel_rfl
theorem nr4 : DkRun 8 nd1 := DkRun.did nr3 ne4
def nd2 : Dk := ⟨[(⟨#[100]⟩, ⟨2, ⟨#[]⟩, ⟨#[]⟩, 0⟩), (⟨#[100, 47, 98]⟩, ⟨1, ⟨#[120, 121]⟩, ⟨#[]⟩, 1⟩)], [(⟨#[100]⟩, ⟨2, ⟨#[]⟩, ⟨#[]⟩, 0⟩), (⟨#[100, 47, 98]⟩, ⟨1, ⟨#[120, 121]⟩, ⟨#[]⟩, 1⟩)], 1024, [], false, (-5)⟩
theorem ne5 : Dk.sync nd1 = (0, nd2) := by kernel_rfl
theorem nr5 : DkRun 9 nd2 := DkRun.synced nr4 ne5
def nd3 : Dk := ⟨[(⟨#[100]⟩, ⟨2, ⟨#[]⟩, ⟨#[]⟩, 0⟩), (⟨#[100, 47, 98]⟩, ⟨1, ⟨#[108, 111, 110, 103]⟩, ⟨#[]⟩, 2⟩)], [(⟨#[100]⟩, ⟨2, ⟨#[]⟩, ⟨#[]⟩, 0⟩), (⟨#[100, 47, 98]⟩, ⟨1, ⟨#[120, 121]⟩, ⟨#[]⟩, 1⟩)], 1024, [.write ⟨#[100, 47, 98]⟩ ⟨#[108, 111, 110, 103]⟩ 2], false, (-6)⟩
theorem ne6 : Dk.act nd2 (.write ⟨#[100, 47, 98]⟩ ⟨#[108, 111, 110, 103]⟩ 2) = (0, nd3) := by kernel_rfl
theorem nr6 : DkRun 10 nd3 := DkRun.did nr5 ne6
def nd4 : Dk := ⟨[(⟨#[100]⟩, ⟨2, ⟨#[]⟩, ⟨#[]⟩, 0⟩), (⟨#[100, 47, 98]⟩, ⟨1, ⟨#[108, 111]⟩, ⟨#[]⟩, 2⟩)], [(⟨#[100]⟩, ⟨2, ⟨#[]⟩, ⟨#[]⟩, 0⟩), (⟨#[100, 47, 98]⟩, ⟨1, ⟨#[108, 111]⟩, ⟨#[]⟩, 2⟩)], 1024, [], false, (-6)⟩
theorem ne7 : Dk.crash nd3 [4] = nd4 := by kernel_rfl
theorem nr7 : DkRun 11 nd4 := DkRun.crashed nr6 ne7
theorem ne8 : Dk.act nd4 (.write ⟨#[101]⟩ (xs 1000) 1) = (7, nd4) := by
  have key : ∀ c : ByteArray, c.size = 1000 → Dk.act nd4 (.write ⟨#[101]⟩ c 1) = (7, nd4) := fun c hs => by
    rw [act_of (r := 7) (l := nd4.live) (by kernel_rfl) (by kernel_rfl) (by kernel_rfl) (write_full (U := 130) (by kernel_rfl) (by kernel_rfl) (by kernel_rfl) (by kernel_rfl) (by omega) (by rw [show nd4.room = 1024 from rfl]; omega)), if_neg (by decide)]
  exact key _ (xs_size 1000)
theorem nr8 : DkRun 12 nd4 := DkRun.did nr7 ne8
theorem ne9 : Dk.act nd4 (.write ⟨#[]⟩ ⟨#[]⟩ 1) = (10, nd4) := by kernel_rfl
theorem nr9 : DkRun 13 nd4 := DkRun.did nr8 ne9
theorem ne10 : Dk.act nd4 (.write ⟨#[101]⟩ ⟨#[]⟩ (-1)) = (2, nd4) := by kernel_rfl
theorem nr10 : DkRun 14 nd4 := DkRun.did nr9 ne10
theorem ne11 : Dk.act nd4 (.link ⟨#[101]⟩ ⟨#[]⟩ 1) = (2, nd4) := by kernel_rfl
theorem nr11 : DkRun 15 nd4 := DkRun.did nr10 ne11
theorem ne12 : Dk.act nd4 (.remove ⟨#[101]⟩) = (5, nd4) := by kernel_rfl
theorem nr12 : DkRun 16 nd4 := DkRun.did nr11 ne12
def nd5 : Dk := ⟨[(⟨#[100]⟩, ⟨2, ⟨#[]⟩, ⟨#[]⟩, 0⟩), (⟨#[100, 47, 98]⟩, ⟨1, ⟨#[108, 111]⟩, ⟨#[]⟩, 2⟩), (⟨#[101]⟩, ⟨3, ⟨#[]⟩, ⟨#[100, 47, 98]⟩, 3⟩)], [(⟨#[100]⟩, ⟨2, ⟨#[]⟩, ⟨#[]⟩, 0⟩), (⟨#[100, 47, 98]⟩, ⟨1, ⟨#[108, 111]⟩, ⟨#[]⟩, 2⟩)], 1024, [.link ⟨#[101]⟩ ⟨#[100, 47, 98]⟩ 3], false, (-7)⟩
theorem ne13 : Dk.act nd4 (.link ⟨#[101]⟩ ⟨#[100, 47, 98]⟩ 3) = (0, nd5) := by kernel_rfl
theorem nr13 : DkRun 17 nd5 := DkRun.did nr12 ne13
theorem ne14 : Dk.act nd5 (.write ⟨#[101]⟩ ⟨#[]⟩ 1) = (11, nd5) := by kernel_rfl
theorem nr14 : DkRun 18 nd5 := DkRun.did nr13 ne14
theorem ne15 : Dk.act nd5 (.add ⟨#[101]⟩ ⟨#[]⟩) = (11, nd5) := by kernel_rfl
theorem nr15 : DkRun 19 nd5 := DkRun.did nr14 ne15
theorem ne16 : Dk.act nd5 (.rename ⟨#[100]⟩ ⟨#[101]⟩) = (12, nd5) := by kernel_rfl
theorem nr16 : DkRun 20 nd5 := DkRun.did nr15 ne16
def nd6 : Dk := ⟨[(⟨#[100]⟩, ⟨2, ⟨#[]⟩, ⟨#[]⟩, 0⟩), (⟨#[101]⟩, ⟨1, ⟨#[108, 111]⟩, ⟨#[]⟩, 2⟩)], [(⟨#[100]⟩, ⟨2, ⟨#[]⟩, ⟨#[]⟩, 0⟩), (⟨#[100, 47, 98]⟩, ⟨1, ⟨#[108, 111]⟩, ⟨#[]⟩, 2⟩)], 1024, [.link ⟨#[101]⟩ ⟨#[100, 47, 98]⟩ 3, .rename ⟨#[100, 47, 98]⟩ ⟨#[101]⟩], false, (-8)⟩
theorem ne17 : Dk.act nd5 (.rename ⟨#[100, 47, 98]⟩ ⟨#[101]⟩) = (0, nd6) := by kernel_rfl
theorem nr17 : DkRun 21 nd6 := DkRun.did nr16 ne17
theorem ne18 : Dk.fuse nd6 (-1) = (2, nd6) := by kernel_rfl
theorem nr18 : DkRun 22 nd6 := DkRun.fused nr17 ne18 (by decide)
def nd7 : Dk := ⟨[(⟨#[100]⟩, ⟨2, ⟨#[]⟩, ⟨#[]⟩, 0⟩), (⟨#[101]⟩, ⟨1, ⟨#[108, 111]⟩, ⟨#[]⟩, 2⟩)], [(⟨#[100]⟩, ⟨2, ⟨#[]⟩, ⟨#[]⟩, 0⟩), (⟨#[100, 47, 98]⟩, ⟨1, ⟨#[108, 111]⟩, ⟨#[]⟩, 2⟩)], 1024, [.link ⟨#[101]⟩ ⟨#[100, 47, 98]⟩ 3, .rename ⟨#[100, 47, 98]⟩ ⟨#[101]⟩], true, 1⟩
theorem ne19 : Dk.fuse nd6 1 = (0, nd7) := by kernel_rfl
theorem nr19 : DkRun 23 nd7 := DkRun.fused nr18 ne19 (by decide)
def nd8 : Dk := ⟨[(⟨#[100]⟩, ⟨2, ⟨#[]⟩, ⟨#[]⟩, 0⟩), (⟨#[101]⟩, ⟨1, ⟨#[108, 111]⟩, ⟨#[]⟩, 2⟩), (⟨#[103]⟩, ⟨2, ⟨#[]⟩, ⟨#[]⟩, 0⟩)], [(⟨#[100]⟩, ⟨2, ⟨#[]⟩, ⟨#[]⟩, 0⟩), (⟨#[100, 47, 98]⟩, ⟨1, ⟨#[108, 111]⟩, ⟨#[]⟩, 2⟩)], 1024, [.link ⟨#[101]⟩ ⟨#[100, 47, 98]⟩ 3, .rename ⟨#[100, 47, 98]⟩ ⟨#[101]⟩, .mkdir ⟨#[103]⟩], true, 0⟩
theorem ne20 : Dk.act nd7 (.mkdir ⟨#[103]⟩) = (0, nd8) := by kernel_rfl
theorem nr20 : DkRun 24 nd8 := DkRun.did nr19 ne20
theorem ne21 : Dk.act nd8 (.mkdir ⟨#[104]⟩) = (20, nd8) := by kernel_rfl
theorem nr21 : DkRun 25 nd8 := DkRun.did nr20 ne21
theorem ne22 : Dk.act nd8 (.mkdir ⟨#[47]⟩) = (20, nd8) := by kernel_rfl
theorem nr22 : DkRun 26 nd8 := DkRun.did nr21 ne22
theorem ne23 : Dk.sync nd8 = (20, nd8) := by kernel_rfl
theorem nr23 : DkRun 27 nd8 := DkRun.synced nr22 ne23
theorem ne24 : Dk.fuse nd8 5 = (20, nd8) := by kernel_rfl
theorem nr24 : DkRun 28 nd8 := DkRun.fused nr23 ne24 (by decide)
def nd9 : Dk := ⟨[(⟨#[100]⟩, ⟨2, ⟨#[]⟩, ⟨#[]⟩, 0⟩), (⟨#[100, 47, 98]⟩, ⟨1, ⟨#[108, 111]⟩, ⟨#[]⟩, 2⟩), (⟨#[101]⟩, ⟨3, ⟨#[]⟩, ⟨#[100, 47, 98]⟩, 3⟩)], [(⟨#[100]⟩, ⟨2, ⟨#[]⟩, ⟨#[]⟩, 0⟩), (⟨#[100, 47, 98]⟩, ⟨1, ⟨#[108, 111]⟩, ⟨#[]⟩, 2⟩), (⟨#[101]⟩, ⟨3, ⟨#[]⟩, ⟨#[100, 47, 98]⟩, 3⟩)], 1024, [], false, 0⟩
theorem ne25 : Dk.crash nd8 [1] = nd9 := by kernel_rfl
theorem nr25 : DkRun 29 nd9 := DkRun.crashed nr24 ne25
def nd10 : Dk := ⟨[(⟨#[100]⟩, ⟨2, ⟨#[]⟩, ⟨#[]⟩, 0⟩), (⟨#[100, 47, 98]⟩, ⟨1, ⟨#[108, 111]⟩, ⟨#[]⟩, 2⟩), (⟨#[101]⟩, ⟨3, ⟨#[]⟩, ⟨#[100, 47, 98]⟩, 3⟩), (⟨#[104]⟩, ⟨2, ⟨#[]⟩, ⟨#[]⟩, 0⟩)], [(⟨#[100]⟩, ⟨2, ⟨#[]⟩, ⟨#[]⟩, 0⟩), (⟨#[100, 47, 98]⟩, ⟨1, ⟨#[108, 111]⟩, ⟨#[]⟩, 2⟩), (⟨#[101]⟩, ⟨3, ⟨#[]⟩, ⟨#[100, 47, 98]⟩, 3⟩)], 1024, [.mkdir ⟨#[104]⟩], false, (-1)⟩
theorem ne26 : Dk.act nd9 (.mkdir ⟨#[104]⟩) = (0, nd10) := by kernel_rfl
theorem nr26 : DkRun 30 nd10 := DkRun.did nr25 ne26
def nd11 : Dk := ⟨[(⟨#[100]⟩, ⟨2, ⟨#[]⟩, ⟨#[]⟩, 0⟩), (⟨#[100, 47, 98]⟩, ⟨1, ⟨#[108, 111]⟩, ⟨#[]⟩, 2⟩), (⟨#[101]⟩, ⟨3, ⟨#[]⟩, ⟨#[100, 47, 98]⟩, 3⟩), (⟨#[104]⟩, ⟨2, ⟨#[]⟩, ⟨#[]⟩, 0⟩)], [(⟨#[100]⟩, ⟨2, ⟨#[]⟩, ⟨#[]⟩, 0⟩), (⟨#[100, 47, 98]⟩, ⟨1, ⟨#[108, 111]⟩, ⟨#[]⟩, 2⟩), (⟨#[101]⟩, ⟨3, ⟨#[]⟩, ⟨#[100, 47, 98]⟩, 3⟩)], 1024, [.mkdir ⟨#[104]⟩], true, 0⟩
theorem ne27 : Dk.fuse nd10 0 = (0, nd11) := by kernel_rfl
theorem nr27 : DkRun 31 nd11 := DkRun.fused nr26 ne27 (by decide)
def ld1 : Dk := ⟨[(⟨#[97]⟩, ⟨1, (xs 960), ⟨#[]⟩, 1⟩)], [], 1024, [.write ⟨#[97]⟩ (xs 960) 1], false, (-1)⟩
theorem le0 : Dk.act (Dk.made 1024) (.write ⟨#[97]⟩ (xs 960) 1) = (0, ld1) := by
  have key : ∀ c : ByteArray, c.size = 960 → Dk.act (Dk.made 1024) (.write ⟨#[97]⟩ c 1) = (0, ⟨[(⟨#[97]⟩, ⟨1, c, ⟨#[]⟩, 1⟩)], [], 1024, [.write ⟨#[97]⟩ c 1], false, -1⟩) := fun c hs => by
    rw [act_of (r := 0) (l := [(⟨#[97]⟩, ⟨1, c, ⟨#[]⟩, 1⟩)]) (by kernel_rfl) (by kernel_rfl) (by kernel_rfl) (write_fits (by kernel_rfl) (by kernel_rfl) (by kernel_rfl) (by omega) (by rw [show (Dk.made 1024).room = 1024 from rfl]; show 64 + c.size + 0 ≤ 1024; omega)), if_pos rfl]
    rfl
  exact key _ (xs_size 960)
theorem lr0 : DkRun 1 ld1 := DkRun.did kr0 le0
theorem le1 : Dk.act ld1 (.add ⟨#[97]⟩ ⟨#[120]⟩) = (7, ld1) := by kernel_rfl
theorem lr1 : DkRun 2 ld1 := DkRun.did lr0 le1
theorem le2 : Dk.act ld1 (.mkdir ⟨#[98]⟩) = (7, ld1) := by kernel_rfl
theorem lr2 : DkRun 3 ld1 := DkRun.did lr1 le2
def ld2 : Dk := ⟨[(⟨#[97]⟩, ⟨1, ⟨#[120, 121]⟩, ⟨#[]⟩, 1⟩)], [], 1024, [.write ⟨#[97]⟩ (xs 960) 1, .write ⟨#[97]⟩ ⟨#[120, 121]⟩ 1], false, (-2)⟩
theorem le3 : Dk.act ld1 (.write ⟨#[97]⟩ ⟨#[120, 121]⟩ 1) = (0, ld2) := by kernel_rfl
theorem lr3 : DkRun 4 ld2 := DkRun.did lr2 le3
def ld3 : Dk := ⟨[(⟨#[97]⟩, ⟨1, ⟨#[120, 121]⟩, ⟨#[]⟩, 1⟩), (⟨#[98]⟩, ⟨1, ⟨#[122]⟩, ⟨#[]⟩, 1⟩)], [], 1024, [.write ⟨#[97]⟩ (xs 960) 1, .write ⟨#[97]⟩ ⟨#[120, 121]⟩ 1, .write ⟨#[98]⟩ ⟨#[122]⟩ 1], false, (-3)⟩
theorem le4 : Dk.act ld2 (.write ⟨#[98]⟩ ⟨#[122]⟩ 1) = (0, ld3) := by kernel_rfl
theorem lr4 : DkRun 5 ld3 := DkRun.did lr3 le4
def ld4 : Dk := ⟨[(⟨#[98]⟩, ⟨1, ⟨#[120, 121]⟩, ⟨#[]⟩, 1⟩)], [], 1024, [.write ⟨#[97]⟩ (xs 960) 1, .write ⟨#[97]⟩ ⟨#[120, 121]⟩ 1, .write ⟨#[98]⟩ ⟨#[122]⟩ 1, .rename ⟨#[97]⟩ ⟨#[98]⟩], false, (-4)⟩
theorem le5 : Dk.act ld3 (.rename ⟨#[97]⟩ ⟨#[98]⟩) = (0, ld4) := by kernel_rfl
theorem lr5 : DkRun 6 ld4 := DkRun.did lr4 le5
def ld5 : Dk := ⟨[(⟨#[98]⟩, ⟨1, ⟨#[120, 121]⟩, ⟨#[]⟩, 1⟩), (⟨#[120]⟩, ⟨2, ⟨#[]⟩, ⟨#[]⟩, 0⟩)], [], 1024, [.write ⟨#[97]⟩ (xs 960) 1, .write ⟨#[97]⟩ ⟨#[120, 121]⟩ 1, .write ⟨#[98]⟩ ⟨#[122]⟩ 1, .rename ⟨#[97]⟩ ⟨#[98]⟩, .mkdir ⟨#[120]⟩], false, (-5)⟩
theorem le6 : Dk.act ld4 (.mkdir ⟨#[120]⟩) = (0, ld5) := by kernel_rfl
theorem lr6 : DkRun 7 ld5 := DkRun.did lr5 le6
def ld6 : Dk := ⟨[(⟨#[98]⟩, ⟨1, ⟨#[120, 121]⟩, ⟨#[]⟩, 1⟩), (⟨#[120]⟩, ⟨2, ⟨#[]⟩, ⟨#[]⟩, 0⟩), (⟨#[120, 47, 121]⟩, ⟨2, ⟨#[]⟩, ⟨#[]⟩, 0⟩)], [], 1024, [.write ⟨#[97]⟩ (xs 960) 1, .write ⟨#[97]⟩ ⟨#[120, 121]⟩ 1, .write ⟨#[98]⟩ ⟨#[122]⟩ 1, .rename ⟨#[97]⟩ ⟨#[98]⟩, .mkdir ⟨#[120]⟩, .mkdir ⟨#[120, 47, 121]⟩], false, (-6)⟩
theorem le7 : Dk.act ld5 (.mkdir ⟨#[120, 47, 121]⟩) = (0, ld6) := by kernel_rfl
theorem lr7 : DkRun 8 ld6 := DkRun.did lr6 le7
def ld7 : Dk := ⟨[(⟨#[98]⟩, ⟨1, ⟨#[120, 121]⟩, ⟨#[]⟩, 1⟩), (⟨#[112]⟩, ⟨2, ⟨#[]⟩, ⟨#[]⟩, 0⟩), (⟨#[120]⟩, ⟨2, ⟨#[]⟩, ⟨#[]⟩, 0⟩), (⟨#[120, 47, 121]⟩, ⟨2, ⟨#[]⟩, ⟨#[]⟩, 0⟩)], [], 1024, [.write ⟨#[97]⟩ (xs 960) 1, .write ⟨#[97]⟩ ⟨#[120, 121]⟩ 1, .write ⟨#[98]⟩ ⟨#[122]⟩ 1, .rename ⟨#[97]⟩ ⟨#[98]⟩, .mkdir ⟨#[120]⟩, .mkdir ⟨#[120, 47, 121]⟩, .mkdir ⟨#[112]⟩], false, (-7)⟩
theorem le8 : Dk.act ld6 (.mkdir ⟨#[112]⟩) = (0, ld7) := by kernel_rfl
theorem lr8 : DkRun 9 ld7 := DkRun.did lr7 le8
def ld8 : Dk := ⟨[(⟨#[98]⟩, ⟨1, ⟨#[120, 121]⟩, ⟨#[]⟩, 1⟩), (⟨#[112]⟩, ⟨2, ⟨#[]⟩, ⟨#[]⟩, 0⟩), (⟨#[112, 47, 112]⟩, ⟨2, ⟨#[]⟩, ⟨#[]⟩, 0⟩), (⟨#[120]⟩, ⟨2, ⟨#[]⟩, ⟨#[]⟩, 0⟩), (⟨#[120, 47, 121]⟩, ⟨2, ⟨#[]⟩, ⟨#[]⟩, 0⟩)], [], 1024, [.write ⟨#[97]⟩ (xs 960) 1, .write ⟨#[97]⟩ ⟨#[120, 121]⟩ 1, .write ⟨#[98]⟩ ⟨#[122]⟩ 1, .rename ⟨#[97]⟩ ⟨#[98]⟩, .mkdir ⟨#[120]⟩, .mkdir ⟨#[120, 47, 121]⟩, .mkdir ⟨#[112]⟩, .mkdir ⟨#[112, 47, 112]⟩], false, (-8)⟩
theorem le9 : Dk.act ld7 (.mkdir ⟨#[112, 47, 112]⟩) = (0, ld8) := by kernel_rfl
theorem lr9 : DkRun 10 ld8 := DkRun.did lr8 le9
def ld9 : Dk := ⟨[(⟨#[98]⟩, ⟨1, ⟨#[120, 121]⟩, ⟨#[]⟩, 1⟩), (⟨#[112]⟩, ⟨2, ⟨#[]⟩, ⟨#[]⟩, 0⟩), (⟨#[112, 47, 112]⟩, ⟨2, ⟨#[]⟩, ⟨#[]⟩, 0⟩), (⟨#[112, 47, 112, 47, 112]⟩, ⟨2, ⟨#[]⟩, ⟨#[]⟩, 0⟩), (⟨#[120]⟩, ⟨2, ⟨#[]⟩, ⟨#[]⟩, 0⟩), (⟨#[120, 47, 121]⟩, ⟨2, ⟨#[]⟩, ⟨#[]⟩, 0⟩)], [], 1024, [.write ⟨#[97]⟩ (xs 960) 1, .write ⟨#[97]⟩ ⟨#[120, 121]⟩ 1, .write ⟨#[98]⟩ ⟨#[122]⟩ 1, .rename ⟨#[97]⟩ ⟨#[98]⟩, .mkdir ⟨#[120]⟩, .mkdir ⟨#[120, 47, 121]⟩, .mkdir ⟨#[112]⟩, .mkdir ⟨#[112, 47, 112]⟩, .mkdir ⟨#[112, 47, 112, 47, 112]⟩], false, (-9)⟩
theorem le10 : Dk.act ld8 (.mkdir ⟨#[112, 47, 112, 47, 112]⟩) = (0, ld9) := by kernel_rfl
theorem lr10 : DkRun 11 ld9 := DkRun.did lr9 le10
def ld10 : Dk := ⟨[(⟨#[98]⟩, ⟨1, ⟨#[120, 121]⟩, ⟨#[]⟩, 1⟩), (⟨#[112]⟩, ⟨2, ⟨#[]⟩, ⟨#[]⟩, 0⟩), (⟨#[112, 47, 112]⟩, ⟨2, ⟨#[]⟩, ⟨#[]⟩, 0⟩), (⟨#[112, 47, 112, 47, 112]⟩, ⟨2, ⟨#[]⟩, ⟨#[]⟩, 0⟩), (⟨#[112, 47, 112, 47, 112, 47, 112]⟩, ⟨2, ⟨#[]⟩, ⟨#[]⟩, 0⟩), (⟨#[120]⟩, ⟨2, ⟨#[]⟩, ⟨#[]⟩, 0⟩), (⟨#[120, 47, 121]⟩, ⟨2, ⟨#[]⟩, ⟨#[]⟩, 0⟩)], [], 1024, [.write ⟨#[97]⟩ (xs 960) 1, .write ⟨#[97]⟩ ⟨#[120, 121]⟩ 1, .write ⟨#[98]⟩ ⟨#[122]⟩ 1, .rename ⟨#[97]⟩ ⟨#[98]⟩, .mkdir ⟨#[120]⟩, .mkdir ⟨#[120, 47, 121]⟩, .mkdir ⟨#[112]⟩, .mkdir ⟨#[112, 47, 112]⟩, .mkdir ⟨#[112, 47, 112, 47, 112]⟩, .mkdir ⟨#[112, 47, 112, 47, 112, 47, 112]⟩], false, (-10)⟩
theorem le11 : Dk.act ld9 (.mkdir ⟨#[112, 47, 112, 47, 112, 47, 112]⟩) = (0, ld10) := by kernel_rfl
theorem lr11 : DkRun 12 ld10 := DkRun.did lr10 le11
def ld11 : Dk := ⟨[(⟨#[98]⟩, ⟨1, ⟨#[120, 121]⟩, ⟨#[]⟩, 1⟩), (⟨#[112]⟩, ⟨2, ⟨#[]⟩, ⟨#[]⟩, 0⟩), (⟨#[112, 47, 112]⟩, ⟨2, ⟨#[]⟩, ⟨#[]⟩, 0⟩), (⟨#[112, 47, 112, 47, 112]⟩, ⟨2, ⟨#[]⟩, ⟨#[]⟩, 0⟩), (⟨#[112, 47, 112, 47, 112, 47, 112]⟩, ⟨2, ⟨#[]⟩, ⟨#[]⟩, 0⟩), (⟨#[112, 47, 112, 47, 112, 47, 112, 47, 112]⟩, ⟨2, ⟨#[]⟩, ⟨#[]⟩, 0⟩), (⟨#[120]⟩, ⟨2, ⟨#[]⟩, ⟨#[]⟩, 0⟩), (⟨#[120, 47, 121]⟩, ⟨2, ⟨#[]⟩, ⟨#[]⟩, 0⟩)], [], 1024, [.write ⟨#[97]⟩ (xs 960) 1, .write ⟨#[97]⟩ ⟨#[120, 121]⟩ 1, .write ⟨#[98]⟩ ⟨#[122]⟩ 1, .rename ⟨#[97]⟩ ⟨#[98]⟩, .mkdir ⟨#[120]⟩, .mkdir ⟨#[120, 47, 121]⟩, .mkdir ⟨#[112]⟩, .mkdir ⟨#[112, 47, 112]⟩, .mkdir ⟨#[112, 47, 112, 47, 112]⟩, .mkdir ⟨#[112, 47, 112, 47, 112, 47, 112]⟩, .mkdir ⟨#[112, 47, 112, 47, 112, 47, 112, 47, 112]⟩], false, (-11)⟩
theorem le12 : Dk.act ld10 (.mkdir ⟨#[112, 47, 112, 47, 112, 47, 112, 47, 112]⟩) = (0, ld11) := by kernel_rfl
theorem lr12 : DkRun 13 ld11 := DkRun.did lr11 le12
theorem le13 : Dk.act ld11 (.rename ⟨#[120]⟩ ⟨#[112, 47, 112, 47, 112, 47, 112, 47, 112, 47, 120]⟩) = (10, ld11) := by kernel_rfl
theorem lr13 : DkRun 14 ld11 := DkRun.did lr12 le13
def ld12 : Dk := ⟨[(⟨#[98]⟩, ⟨1, ⟨#[120, 121]⟩, ⟨#[]⟩, 1⟩), (⟨#[112]⟩, ⟨2, ⟨#[]⟩, ⟨#[]⟩, 0⟩), (⟨#[112, 47, 112]⟩, ⟨2, ⟨#[]⟩, ⟨#[]⟩, 0⟩), (⟨#[112, 47, 112, 47, 112]⟩, ⟨2, ⟨#[]⟩, ⟨#[]⟩, 0⟩), (⟨#[112, 47, 112, 47, 112, 47, 112]⟩, ⟨2, ⟨#[]⟩, ⟨#[]⟩, 0⟩), (⟨#[112, 47, 112, 47, 112, 47, 112, 47, 112]⟩, ⟨2, ⟨#[]⟩, ⟨#[]⟩, 0⟩), (⟨#[112, 47, 112, 47, 112, 47, 112, 47, 120]⟩, ⟨2, ⟨#[]⟩, ⟨#[]⟩, 0⟩), (⟨#[112, 47, 112, 47, 112, 47, 112, 47, 120, 47, 121]⟩, ⟨2, ⟨#[]⟩, ⟨#[]⟩, 0⟩)], [], 1024, [.write ⟨#[97]⟩ (xs 960) 1, .write ⟨#[97]⟩ ⟨#[120, 121]⟩ 1, .write ⟨#[98]⟩ ⟨#[122]⟩ 1, .rename ⟨#[97]⟩ ⟨#[98]⟩, .mkdir ⟨#[120]⟩, .mkdir ⟨#[120, 47, 121]⟩, .mkdir ⟨#[112]⟩, .mkdir ⟨#[112, 47, 112]⟩, .mkdir ⟨#[112, 47, 112, 47, 112]⟩, .mkdir ⟨#[112, 47, 112, 47, 112, 47, 112]⟩, .mkdir ⟨#[112, 47, 112, 47, 112, 47, 112, 47, 112]⟩, .rename ⟨#[120]⟩ ⟨#[112, 47, 112, 47, 112, 47, 112, 47, 120]⟩], false, (-12)⟩
theorem le14 : Dk.act ld11 (.rename ⟨#[120]⟩ ⟨#[112, 47, 112, 47, 112, 47, 112, 47, 120]⟩) = (0, ld12) := by kernel_rfl
theorem lr14 : DkRun 15 ld12 := DkRun.did lr13 le14
def ld13 : Dk := ⟨[(⟨#[98]⟩, ⟨1, ⟨#[120, 121]⟩, ⟨#[]⟩, 1⟩), (⟨#[112]⟩, ⟨2, ⟨#[]⟩, ⟨#[]⟩, 0⟩), (⟨#[112, 47, 112]⟩, ⟨2, ⟨#[]⟩, ⟨#[]⟩, 0⟩), (⟨#[112, 47, 112, 47, 112]⟩, ⟨2, ⟨#[]⟩, ⟨#[]⟩, 0⟩), (⟨#[112, 47, 112, 47, 112, 47, 112]⟩, ⟨2, ⟨#[]⟩, ⟨#[]⟩, 0⟩), (⟨#[112, 47, 112, 47, 112, 47, 112, 47, 112]⟩, ⟨2, ⟨#[]⟩, ⟨#[]⟩, 0⟩), (⟨#[112, 47, 112, 47, 112, 47, 112, 47, 120]⟩, ⟨2, ⟨#[]⟩, ⟨#[]⟩, 0⟩), (⟨#[112, 47, 112, 47, 112, 47, 112, 47, 120, 47, 121]⟩, ⟨2, ⟨#[]⟩, ⟨#[]⟩, 0⟩)], [], 1024, [.write ⟨#[97]⟩ (xs 960) 1, .write ⟨#[97]⟩ ⟨#[120, 121]⟩ 1, .write ⟨#[98]⟩ ⟨#[122]⟩ 1, .rename ⟨#[97]⟩ ⟨#[98]⟩, .mkdir ⟨#[120]⟩, .mkdir ⟨#[120, 47, 121]⟩, .mkdir ⟨#[112]⟩, .mkdir ⟨#[112, 47, 112]⟩, .mkdir ⟨#[112, 47, 112, 47, 112]⟩, .mkdir ⟨#[112, 47, 112, 47, 112, 47, 112]⟩, .mkdir ⟨#[112, 47, 112, 47, 112, 47, 112, 47, 112]⟩, .rename ⟨#[120]⟩ ⟨#[112, 47, 112, 47, 112, 47, 112, 47, 120]⟩], true, 1⟩
theorem le15 : Dk.fuse ld12 1 = (0, ld13) := by kernel_rfl
theorem lr15 : DkRun 16 ld13 := DkRun.fused lr14 le15 (by decide)
def ld14 : Dk := ⟨[(⟨#[98]⟩, ⟨1, ⟨#[120, 121]⟩, ⟨#[]⟩, 1⟩), (⟨#[112]⟩, ⟨2, ⟨#[]⟩, ⟨#[]⟩, 0⟩), (⟨#[112, 47, 112]⟩, ⟨2, ⟨#[]⟩, ⟨#[]⟩, 0⟩), (⟨#[112, 47, 112, 47, 112]⟩, ⟨2, ⟨#[]⟩, ⟨#[]⟩, 0⟩), (⟨#[112, 47, 112, 47, 112, 47, 112]⟩, ⟨2, ⟨#[]⟩, ⟨#[]⟩, 0⟩), (⟨#[112, 47, 112, 47, 112, 47, 112, 47, 112]⟩, ⟨2, ⟨#[]⟩, ⟨#[]⟩, 0⟩), (⟨#[112, 47, 112, 47, 112, 47, 112, 47, 120]⟩, ⟨2, ⟨#[]⟩, ⟨#[]⟩, 0⟩), (⟨#[112, 47, 112, 47, 112, 47, 112, 47, 120, 47, 121]⟩, ⟨2, ⟨#[]⟩, ⟨#[]⟩, 0⟩)], [(⟨#[98]⟩, ⟨1, ⟨#[120, 121]⟩, ⟨#[]⟩, 1⟩), (⟨#[112]⟩, ⟨2, ⟨#[]⟩, ⟨#[]⟩, 0⟩), (⟨#[112, 47, 112]⟩, ⟨2, ⟨#[]⟩, ⟨#[]⟩, 0⟩), (⟨#[112, 47, 112, 47, 112]⟩, ⟨2, ⟨#[]⟩, ⟨#[]⟩, 0⟩), (⟨#[112, 47, 112, 47, 112, 47, 112]⟩, ⟨2, ⟨#[]⟩, ⟨#[]⟩, 0⟩), (⟨#[112, 47, 112, 47, 112, 47, 112, 47, 112]⟩, ⟨2, ⟨#[]⟩, ⟨#[]⟩, 0⟩), (⟨#[112, 47, 112, 47, 112, 47, 112, 47, 120]⟩, ⟨2, ⟨#[]⟩, ⟨#[]⟩, 0⟩), (⟨#[112, 47, 112, 47, 112, 47, 112, 47, 120, 47, 121]⟩, ⟨2, ⟨#[]⟩, ⟨#[]⟩, 0⟩)], 1024, [], true, 0⟩
theorem le16 : Dk.sync ld13 = (0, ld14) := by kernel_rfl
theorem lr16 : DkRun 17 ld14 := DkRun.synced lr15 le16
theorem nq1 : listE nd1.live ⟨#[]⟩ = ([⟨#[100]⟩], 0) := by kernel_rfl
theorem nq2 : nd1.live.map (·.1) = [⟨#[100]⟩, ⟨#[100, 47, 98]⟩] := by kernel_rfl
theorem nq3 : readE nd4.live ⟨#[100, 47, 98]⟩ = (⟨1, ⟨#[108, 111]⟩, emp, 2⟩, 0) := by kernel_rfl
theorem nq4 : readE nd6.live ⟨#[101]⟩ = (⟨1, ⟨#[108, 111]⟩, emp, 2⟩, 0) := by kernel_rfl
end Go.Proofs.YtldppmjjgljinaaGreatDoor
