/- Contract of caravan/sha's Text. -/
import Derived.Test.YtgojagdjlebnnaaDoorShaH
namespace Go.Proofs.YtgojagdjlebnnaaDoor
open Go.RowKit

def digitsS : ByteArray := ⟨#[48, 49, 50, 51, 52, 53, 54, 55, 56, 57, 97, 98, 99, 100, 101, 102]⟩
theorem digits_at (n : Nat) (h : n < 16) : digitsS[n]? = some (hexD n) := by
  have : n = 0 ∨ n = 1 ∨ n = 2 ∨ n = 3 ∨ n = 4 ∨ n = 5 ∨ n = 6 ∨ n = 7 ∨ n = 8 ∨ n = 9 ∨ n = 10 ∨ n = 11 ∨ n = 12 ∨ n = 13 ∨ n = 14 ∨ n = 15 := by omega
  rcases this with rfl | rfl | rfl | rfl | rfl | rfl | rfl | rfl | rfl | rfl | rfl | rfl | rfl | rfl | rfl | rfl <;> rfl
theorem digits_get (n : Nat) (h : n < (⟨#[48, 49, 50, 51, 52, 53, 54, 55, 56, 57, 97, 98, 99, 100, 101, 102]⟩ : ByteArray).size) : (⟨#[48, 49, 50, 51, 52, 53, 54, 55, 56, 57, 97, 98, 99, 100, 101, 102]⟩ : ByteArray)[n]'h = hexD n := Option.some.inj ((getElem?_pos digitsS n h).symm.trans (digits_at n h))
theorem hexL_step (l : List UInt8) (k : Nat) (x : UInt8) (h : l[k]? = some x) : hexL (l.take (k + 1)) = hexL (l.take k) ++ [hexD (x.toNat / 16)] ++ [hexD (x.toNat % 16)] := by
  rw [List.take_add_one, h]; simp [hexL]

set_option maxHeartbeats 2000000 in
set_option maxRecDepth 100000 in
theorem text_any (l : List UInt8) (hl : l.length = 32) (w : World) :
    Calls Tryd.prog 52 #[hashV l] w fun e w' => e = .returned (.string ⟨(hexL l).toArray⟩) ∧ Ext w w' := by
  unfold hashV
  have HI := fun i x h w => Lib.hid (index_hash l hl i x h w)
  have hsz : (hArr l 32).size = 32 := hArr_size l 32 hl (by omega)
  have HSZ := Lib.hid hsz
  obtain ⟨H, hH⟩ : ∃ H, H = hArr l 32 := ⟨_, rfl⟩
  rw [← hH] at hsz HSZ HI ⊢
  clear hH hsz
  go_enter Tryd.func52, Tryd.ntmps52
  have HB := Lib.hid (((Ext.refl (w.alloc (.cells H 55))).alloc (.cells #[.pointer none, .slice none 0 0] 63)).block (by simp) |>.trans (heap_alloc_new w (.cells H 55)))
  have HBB := Lib.hid (show IsB (w.heap.size + 1) (w.heap.size + 1) [] ((w.alloc (.cells H 55)).alloc (.cells #[.pointer none, .slice none 0 0] 63)) from .inl ⟨Nat.le_refl _, .slice none 0 0, by rw [show w.heap.size + 1 = (w.alloc (.cells H 55)).heap.size from by simp]; exact heap_alloc_new _ _, World.ownsRow_nil _ _ _ _, by simp [Value.ownBlock]⟩)
  have HX0 := Lib.hid (((Ext.refl w).alloc (.cells H 55)).alloc (.cells #[.pointer none, .slice none 0 0] 63))
  go_wp2_with (refine wpList_load_row rfl _ _ rfl w.heap.size rfl 55 H (0, 0) _ HB.out Tryd.underlying55 rfl (by rw [HSZ.out]; kernel_rfl) ?_; go_frame)
  go_loopw [7] (fun iv wr => Hid (∃ k : Nat, k ≤ 32 ∧ iv = .int .i64 k ∧ IsB (w.heap.size + 1) (w.heap.size + 1) (hexL (l.take k)) wr ∧ Ext w wr ∧ w.heap.size + 1 ≤ wr.heap.size)) (fun iv _ => 32 - (intOf iv).toNat)
  case atStart => exact ⟨0, by omega, rfl, HBB.out, HX0.out, by simp⟩
  case round =>
    obtain ⟨k, hk, rfl, hb, hx, hs⟩ := hrel.out
    clear hrel HBB HX0 HB
    have HX := Lib.hid hx
    by_cases h32 : k < 32
    · obtain ⟨x, hlx⟩ : ∃ x, l[k]? = some x := ⟨_, List.getElem?_eq_getElem (by omega)⟩
      have hidx := fun w => (HI k x hlx w).out
      have hln : (hexL (l.take k)).length ≤ 64 := by rw [hexL_len, List.length_take]; omega
      have hxl := x.toNat_lt
      have hd1 := digits_get (x.toNat / 16)
      have hd2 := digits_get (x.toNat % 16)
      have HST := Lib.hid (hexL_step l k x hlx)
      have HB1 := Lib.hid (writeByte_any _ _ _ (hexD (x.toNat / 16)) wr hb (by omega) hs)
      generalize hexL (l.take k) = acc at *
      clear hb hx hlx
      go_wp2_with fail
      refine HB1.out.mono ?_
      rintro e w1 ⟨rfl, hb1, hx1⟩
      have HX1 := Lib.hid (show Ext w w1 from Below.trans HX.out (Below.mono hx1 (by omega)))
      have hs1 : w.heap.size + 1 ≤ w1.heap.size := Nat.le_trans hs hx1.size
      have HB2 := Lib.hid (writeByte_any _ _ _ (hexD (x.toNat % 16)) w1 hb1 (by simp; omega) hs1)
      clear hb1 hx1
      go_wp2_with fail
      refine HB2.out.mono ?_
      rintro e w2 ⟨rfl, hb2, hx2⟩
      have HX2 := Lib.hid (show Ext w w2 from Below.trans HX1.out (Below.mono hx2 (by omega)))
      have hs2 : w.heap.size + 1 ≤ w2.heap.size := Nat.le_trans hs1 hx2.size
      have HB3 := Lib.hid hb2
      clear hb2 hx2
      go_wp2_with fail
      go_roundw
      case rel => exact ⟨k + 1, by omega, by go_num, by rw [HST.out]; exact HB3.out, HX2.out, hs2⟩
      case measure => simp [intOf]; omega
    · have e32 : l.take k = l := List.take_of_length_le (by omega)
      have HS := Lib.hid (Tryd.Builder_String_any _ _ _ wr (by rw [e32] at hb; exact hb) hs)
      clear hb hx e32
      go_wp2_with fail
      refine HS.out.mono ?_
      rintro e w1 ⟨rfl, hx1⟩
      have HX1 := Lib.hid (show Ext w w1 from Below.trans HX.out (Below.mono hx1 (by omega)))
      clear hx1
      go_wp2_with fail
      go_ret
      exact ⟨rfl, HX1.out⟩
end Go.Proofs.YtgojagdjlebnnaaDoor
