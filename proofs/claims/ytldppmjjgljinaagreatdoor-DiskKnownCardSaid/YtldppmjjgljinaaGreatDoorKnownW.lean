/- caravanlaw09's limits: contract; what the law on the examples asks. -/
import Derived.Test.YtldppmjjgljinaaGreatDoorKnownP
import Derived.Test.YtldppmjjgljinaaGreatDoorLawDkG
import Derived.Test.YtldppmjjgljinaaGreatDoorDiskN
import Derived.Test.YtldppmjjgljinaaGreatDoorShelfB
namespace Go.Proofs.YtldppmjjgljinaaGreatDoor
open Go.RowKit

theorem repeat_x (n : Nat) (w : World) (hn : n ≤ 100000) : Calls Tryz.prog 63 #[.string ⟨#[120]⟩, .int .i64 n] w fun e w' => e = .returned (.string (xs n)) ∧ Ext w w' :=
  Tryz.strings_Repeat ⟨#[120]⟩ n w (by omega) (by rw [show (⟨#[120]⟩ : ByteArray).size = 1 from rfl]; omega)
theorem picks_one {w : World} {M : List Nat} {u : UInt8} (hM : ∀ b ∈ M, b < w.heap.size) : PicksAt (w.alloc (.cells #[.int .u8 u.toNat] 5 (0, 0))) M (.slice (some ⟨w.heap.size, 0, none⟩) 1 1) [u] :=
  ⟨_, 1, rfl, by simp, fun k x hx => by
    match k, hx with
    | 0, hx =>
      simp at hx; subst hx
      exact ⟨w.heap.size, 0, rfl, fun hm => by have := hM _ hm; omega, cellB (heap_alloc_new _ _)⟩⟩
theorem zero_not {w0 w : World} {A B : List Thing} {z : Nat} (h : Things w0 w (A ++ .obj z (.cells #[.pointer none, .pointer none, .slice none 0 0, .bool false, .int .i64 0] 109 (0, 0)) :: B)) : NotDk w (.pointer (some ⟨z, 0, none⟩)) ∧ w.cell? ⟨z, 0, none⟩ = some (.pointer none) := by
  obtain ⟨M, I, ⟨_, _, h1⟩, _⟩ := h.opened
  have := cellB (k := 0) h1
  exact ⟨.inr ⟨z, rfl, this⟩, this⟩
theorem list_own {w0 w : World} {A B : List Thing} {d : Nat} {D : Dk} (h : Things w0 w (A ++ .disk d D :: B)) (O : DkOk D) (E : Env w) (p : ByteArray) (hp : p.size < 4294967281) {l : List ByteArray} {r : Int} (hR : listE D.live p = (l, r)) :
    Calls Tryz.prog 61 #[.pointer (some ⟨d, 0, none⟩), .string p] w fun e w' => ∃ a cap, e = .returned (.tuple #[.slice a l.length cap, .int .i64 r]) ∧ l.length ≤ cap ∧ cap ≤ 9223372036854775807 ∧ Hid (TextsOwn w' (.slice a l.length cap) l) ∧ Ext w w' := by
  refine (disk_ext h fun _ _ hd => List_any hd O E p hp).mono ?_
  rintro e w' ⟨v, rfl, h1, h2⟩
  rw [hR] at h1 ⊢
  have h3 := TextsOwn.of h1 rfl
  obtain ⟨a, cap, rfl, h4, h5⟩ := h3.shape
  exact ⟨a, cap, rfl, h4, h5, h3, h2⟩

set_option maxRecDepth 100000 in
set_option maxHeartbeats 4000000 in
theorem limits_any (w : World) (E : Env w) : Calls Tryz.prog 67 #[] w fun e w' => e = .returned (.bool true) ∧ Ext w w' := by
  have H0 := Lib.hid (new_many (Things.start (Ext.refl w)) 1024 (by decide) (by decide))
  have HE := Lib.hid E
  have HRp := fun w' => Lib.hid (show Calls Tryz.prog 63 #[.string ⟨#[120]⟩, .int .i64 960] w' (fun e w1 => e = .returned (.string (xs 960)) ∧ Ext w' w1) from repeat_x 960 w' (by decide))
  have hbig960 : (xs 960).size ≤ 4611686018427387904 := by rw [xs_size]; decide
  clear E
  go_enter Tryz.func67, Tryz.ntmps67
  go_wp2_with fail
  refine H0.out.mono ?_
  rintro e w0 ⟨d, rfl, h0⟩
  have HT0 := Lib.hid (show Things w w0 [.disk d (Dk.made 1024)] from h0)
  clear h0 H0
  have Hc1 := HRp w0
  go_wp2_with fail
  refine Hc1.out.mono ?_
  rintro e w1 ⟨rfl, x1⟩
  have HT1 := Lib.hid (HT0.out.ext x1)
  clear x1 Hc1 HT0
  have Hc2 := Lib.hid (write_many (A := []) (B := []) HT1.out (kr0.fit (by decide)) (HE.out.ext HT1.out.is_ext) ⟨#[97]⟩ (xs 960) 1 (by decide) hbig960 le0)
  go_wp2_with fail
  refine Hc2.out.mono ?_
  rintro e w2 ⟨rfl, h2⟩
  have HT2 := Lib.hid h2
  clear h2 Hc2 HT1
  have Hc3 := Lib.hid (used_many (A := []) (B := []) HT2.out)
  rw [show usedL ld1.live = 1024 from by kernel_rfl] at Hc3
  go_wp2_with fail
  refine Hc3.out.mono ?_
  rintro e w3 ⟨rfl, hw⟩
  obtain rfl := hw.symm
  clear hw Hc3
  have Hc4 := Lib.hid (append_many (A := []) (B := []) HT2.out (lr0.fit (by decide)) (HE.out.ext HT2.out.is_ext) ⟨#[97]⟩ ⟨#[120]⟩ (by decide) (by decide) le1)
  go_wp2_with fail
  refine Hc4.out.mono ?_
  rintro e w4 ⟨rfl, h4⟩
  have HT4 := Lib.hid h4
  clear h4 Hc4 HT2
  have Hc5 := Lib.hid (mkdir_many (A := []) (B := []) HT4.out (lr1.fit (by decide)) (HE.out.ext HT4.out.is_ext) ⟨#[98]⟩ (by decide) le2)
  go_wp2_with fail
  refine Hc5.out.mono ?_
  rintro e w5 ⟨rfl, h5⟩
  have HT5 := Lib.hid h5
  clear h5 Hc5 HT4
  have Hc6 := Lib.hid (write_many (A := []) (B := []) HT5.out (lr2.fit (by decide)) (HE.out.ext HT5.out.is_ext) ⟨#[97]⟩ ⟨#[120, 121]⟩ 1 (by decide) (by decide) le3)
  go_wp2_with fail
  refine Hc6.out.mono ?_
  rintro e w6 ⟨rfl, h6⟩
  have HT6 := Lib.hid h6
  clear h6 Hc6 HT5
  have Hc7 := Lib.hid (write_many (A := []) (B := []) HT6.out (lr3.fit (by decide)) (HE.out.ext HT6.out.is_ext) ⟨#[98]⟩ ⟨#[122]⟩ 1 (by decide) (by decide) le4)
  go_wp2_with fail
  refine Hc7.out.mono ?_
  rintro e w7 ⟨rfl, h7⟩
  have HT7 := Lib.hid h7
  clear h7 Hc7 HT6
  have Hc8 := Lib.hid (rename_many (A := []) (B := []) HT7.out (lr4.fit (by decide)) (HE.out.ext HT7.out.is_ext) ⟨#[97]⟩ ⟨#[98]⟩ (by decide) (by decide) le5)
  go_wp2_with fail
  refine Hc8.out.mono ?_
  rintro e w8 ⟨rfl, h8⟩
  have HT8 := Lib.hid h8
  clear h8 Hc8 HT7
  have Hc9 := Lib.hid (used_many (A := []) (B := []) HT8.out)
  rw [show usedL ld4.live = 66 from by kernel_rfl] at Hc9
  go_wp2_with fail
  refine Hc9.out.mono ?_
  rintro e w9 ⟨rfl, hw⟩
  obtain rfl := hw.symm
  clear hw Hc9
  have Hc10 := Lib.hid (mkdir_many (A := []) (B := []) HT8.out (lr5.fit (by decide)) (HE.out.ext HT8.out.is_ext) ⟨#[120]⟩ (by decide) le6)
  go_wp2_with fail
  refine Hc10.out.mono ?_
  rintro e w10 ⟨rfl, h10⟩
  have HT10 := Lib.hid h10
  clear h10 Hc10 HT8
  have Hc11 := Lib.hid (mkdir_many (A := []) (B := []) HT10.out (lr6.fit (by decide)) (HE.out.ext HT10.out.is_ext) ⟨#[120, 47, 121]⟩ (by decide) le7)
  go_wp2_with fail
  refine Hc11.out.mono ?_
  rintro e w11 ⟨rfl, h11⟩
  have HT11 := Lib.hid h11
  clear h11 Hc11 HT10
  have Hc12 := Lib.hid (mkdir_many (A := []) (B := []) HT11.out (lr7.fit (by decide)) (HE.out.ext HT11.out.is_ext) ⟨#[112]⟩ (by decide) le8)
  go_wp2_with fail
  refine Hc12.out.mono ?_
  rintro e w12 ⟨rfl, h12⟩
  have HT12 := Lib.hid h12
  clear h12 Hc12 HT11
  have Hc13 := Lib.hid (mkdir_many (A := []) (B := []) HT12.out (lr8.fit (by decide)) (HE.out.ext HT12.out.is_ext) ⟨#[112, 47, 112]⟩ (by decide) le9)
  go_wp2_with fail
  refine Hc13.out.mono ?_
  rintro e w13 ⟨rfl, h13⟩
  have HT13 := Lib.hid h13
  clear h13 Hc13 HT12
  have Hc14 := Lib.hid (mkdir_many (A := []) (B := []) HT13.out (lr9.fit (by decide)) (HE.out.ext HT13.out.is_ext) ⟨#[112, 47, 112, 47, 112]⟩ (by decide) le10)
  go_wp2_with fail
  refine Hc14.out.mono ?_
  rintro e w14 ⟨rfl, h14⟩
  have HT14 := Lib.hid h14
  clear h14 Hc14 HT13
  have Hc15 := Lib.hid (mkdir_many (A := []) (B := []) HT14.out (lr10.fit (by decide)) (HE.out.ext HT14.out.is_ext) ⟨#[112, 47, 112, 47, 112, 47, 112]⟩ (by decide) le11)
  go_wp2_with fail
  refine Hc15.out.mono ?_
  rintro e w15 ⟨rfl, h15⟩
  have HT15 := Lib.hid h15
  clear h15 Hc15 HT14
  have Hc16 := Lib.hid (mkdir_many (A := []) (B := []) HT15.out (lr11.fit (by decide)) (HE.out.ext HT15.out.is_ext) ⟨#[112, 47, 112, 47, 112, 47, 112, 47, 112]⟩ (by decide) le12)
  go_wp2_with fail
  refine Hc16.out.mono ?_
  rintro e w16 ⟨rfl, h16⟩
  have HT16 := Lib.hid h16
  clear h16 Hc16 HT15
  have Hc17 := Lib.hid (rename_many (A := []) (B := []) HT16.out (lr12.fit (by decide)) (HE.out.ext HT16.out.is_ext) ⟨#[120]⟩ ⟨#[112, 47, 112, 47, 112, 47, 112, 47, 112, 47, 120]⟩ (by decide) (by decide) le13)
  go_wp2_with fail
  refine Hc17.out.mono ?_
  rintro e w17 ⟨rfl, h17⟩
  have HT17 := Lib.hid h17
  clear h17 Hc17 HT16
  have Hc18 := Lib.hid (rename_many (A := []) (B := []) HT17.out (lr13.fit (by decide)) (HE.out.ext HT17.out.is_ext) ⟨#[120]⟩ ⟨#[112, 47, 112, 47, 112, 47, 112, 47, 120]⟩ (by decide) (by decide) le14)
  go_wp2_with fail
  refine Hc18.out.mono ?_
  rintro e w18 ⟨rfl, h18⟩
  have HT18 := Lib.hid h18
  clear h18 Hc18 HT17
  have Hc19 := Lib.hid (fuse_many (A := []) (B := []) HT18.out 1 le15)
  go_wp2_with fail
  refine Hc19.out.mono ?_
  rintro e w19 ⟨rfl, h19⟩
  have HT19 := Lib.hid h19
  clear h19 Hc19 HT18
  have Hc20 := Lib.hid (sync_many (A := []) (B := []) HT19.out (lr15.fit (by decide)) le16)
  go_wp2_with fail
  refine Hc20.out.mono ?_
  rintro e w20 ⟨rfl, h20⟩
  have HT20 := Lib.hid h20
  clear h20 Hc20 HT19
  have Hc21 := Lib.hid (off_many (A := []) (B := []) HT20.out)
  rw [show ld14.off = true from by kernel_rfl] at Hc21
  go_wp2_with fail
  refine Hc21.out.mono ?_
  rintro e w21 ⟨rfl, hw⟩
  obtain rfl := hw.symm
  clear hw Hc21
  go_wp2_with fail
  go_ret
  exact ⟨rfl, HT20.out.is_ext⟩
end Go.Proofs.YtldppmjjgljinaaGreatDoor
