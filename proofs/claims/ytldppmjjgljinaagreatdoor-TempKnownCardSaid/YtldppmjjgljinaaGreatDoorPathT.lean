/- Contract of caravan/path's beside. Contract of caravan/path's Temp. -/
import Derived.Test.YtldppmjjgljinaaGreatDoorPathB
import Derived.Test.YtldppmjjgljinaaGreatDoorShaI
import Derived.Test.YtldppmjjgljinaaGreatDoorPathC
import Derived.Lib.ConvBytes
namespace Go.Proofs.YtldppmjjgljinaaGreatDoor
open Go.RowKit

def besideS (p b : ByteArray) : ByteArray := if p.toList.isEmpty then b else p ++ ⟨#[47]⟩ ++ b
theorem beside_any (p b : ByteArray) (w : World) (hs : p.size + b.size < 9223372036854775807) :
    Calls Tryz.prog 195 #[.string p, .string b] w fun e w' => e = .returned (.string (besideS p b)) ∧ w' = w := by
  unfold besideS
  cases h : p.toList.isEmpty
  · go_enter Tryz.func195, Tryz.ntmps195
    go_wp2
    go_ret
    exact ⟨rfl, rfl⟩
  · go_enter Tryz.func195, Tryz.ntmps195
    go_wp2
    go_ret
    exact ⟨rfl, rfl⟩

theorem baseS_le (s : ByteArray) : (baseS s).size ≤ s.size := by
  unfold baseS; simp
end Go.Proofs.YtldppmjjgljinaaGreatDoor

namespace Go.Proofs.YtldppmjjgljinaaGreatDoor
open Go.RowKit

def hex8 (p : ByteArray) : ByteArray := (⟨(hexL (shaL p.toList)).toArray⟩ : ByteArray).extract 0 8
def tempS (p : ByteArray) : ByteArray := besideS (parentS p) (⟨#[126, 116, 126]⟩ ++ (baseS p).extract 0 (min ((baseS p).size : Int) 12).toNat ++ hex8 p)
def tempR (p : ByteArray) : ByteArray := if mayB p then tempS p else ⟨#[]⟩
theorem hex8_size (p : ByteArray) : (hex8 p).size = 8 := by
  unfold hex8
  rw [ByteArray.size_extract, size_mk, List.size_toArray, hexL_len, shaL_len]; rfl

theorem conv_bytes (s : ByteArray) (w : World) (hs : s.size ≤ 1048576) : ∃ v w', (convert 9 22 (.string s)).run Tryz.prog w = .ok v w' ∧ BytesOff w'.heap.size w' v s.toList ∧ Ext w w' := by
  refine ⟨_, _, Lib.run_convert_string_bytes w 9 22 5 s Tryz.underlying9 Tryz.underlying22 (by kernel_rfl), ⟨_, _, by rw [len_toList], by rw [len_toList]; exact grownCap_ge _ _ _ _, grownCap_le_maxLen _ _ _ _ (by unfold maxLen; omega), fun _ => ⟨w.heap.size, 0, rfl, by rw [Lib.bytesWorld_size]; omega, by rw [Lib.bytesWorld_size]; omega, fun j x hj => ?_⟩⟩, ⟨rfl, rfl, rfl, by rw [Lib.bytesWorld_size]; omega, fun i hi => Lib.bytesWorld_at_old _ _ _ _ hi⟩⟩
  have hj' : j < s.size := by rw [← len_toList]; exact (List.getElem?_eq_some_iff.1 hj).1
  rw [Nat.zero_add, Lib.bytesWorld_cell _ _ _ _ hj', ← Lib.toList_data, List.getD_eq_getElem?_getD, hj]; rfl

set_option maxHeartbeats 1000000 in
set_option maxRecDepth 100000 in
theorem temp_any (p : ByteArray) (w : World) (hs : p.size < 4294967281) (E : Env w) (T : ShaTabs w) :
    Calls Tryz.prog 144 #[.string p] w fun e w' => e = .returned (.tuple #[.string (tempR p), .bool (mayB p)]) ∧ Ext w w' := by
  have HM := Lib.hid (may_any p w hs E)
  have h160 : mayB p = true → p.size ≤ 160 := fun h => by unfold mayB at h; simp at h; exact h.1.1
  unfold tempR
  cases hb : mayB p
  · rw [hb] at HM
    clear hb h160
    go_enter Tryz.func144, Tryz.ntmps144
    go_wp2_with fail
    refine HM.out.mono ?_
    rintro e w1 ⟨rfl, x1⟩
    go_wp2_with fail
    go_ret2
    exact ⟨rfl, x1⟩
  · rw [hb] at HM
    replace h160 := h160 hb
    have HSp := fun w => Lib.hid (split_any p w (by omega))
    have hb := baseS_le p
    have hpar := parentS_le p
    have HSUM := fun v w T hv => Lib.hid (sum_any p.toList v w T hv (by rw [len_toList]; omega))
    have HTX := fun w => Lib.hid (text_any (shaL p.toList) (shaL_len _) w)
    have h8 := hex8_size p
    have HFIN := Lib.hid (show besideS (parentS p) (⟨#[126, 116, 126]⟩ ++ (baseS p).extract 0 (min ((baseS p).size : Int) 12).toNat ++ hex8 p) = tempS p from rfl)
    have hx64 : (⟨(hexL (shaL p.toList)).toArray⟩ : ByteArray).size = 64 := by rw [size_mk, List.size_toArray, hexL_len, shaL_len]
    unfold hex8 at h8 HFIN
    generalize parentS p = P at *
    generalize baseS p = b at *
    generalize shaL p.toList = sm at *
    generalize (⟨(hexL sm).toArray⟩ : ByteArray) = hx at *
    have HT := Lib.hid T
    have HX64 := Lib.hid hx64
    have H8 := Lib.hid h8
    have h64 : 8 ≤ hx.size := by omega
    have h65 : hx.size ≤ 64 := by omega
    clear T h8 hx64
    go_enter Tryz.func144, Tryz.ntmps144
    go_wp2_with fail
    refine HM.out.mono ?_
    rintro e w1 ⟨rfl, x1⟩
    go_wp2_with fail
    refine (HSp _).out.mono ?_
    rintro e w1' ⟨rfl, n, rfl⟩
    have X2 := Lib.hid (x1.drewN n)
    obtain ⟨v, w3, hcv, hbo, x3⟩ := conv_bytes p (w1.drewN n) (by omega)
    have X3 := Lib.hid (X2.out.trans x3)
    have HBO := Lib.hid hbo
    clear hbo x3
    go_wp2_with fail
    refine (HSUM _ _ (HT.out.ext X3.out) HBO.out).out.mono ?_
    rintro e w4 ⟨rfl, x4⟩
    have X4 := Lib.hid (X3.out.trans x4)
    clear x4 hcv
    go_wp2_with fail
    refine (HTX _).out.mono ?_
    rintro e w5 ⟨rfl, x5⟩
    have X5 := Lib.hid (X4.out.trans x5)
    clear x5
    go_wp2_with fail
    refine (beside_any _ _ _ ?hsz).mono ?_
    case hsz => simp [size_mk]; omega
    rintro e w' ⟨rfl, rfl⟩
    go_wp2_with fail
    go_ret2
    exact ⟨ret_strb HFIN.out, X5.out⟩
end Go.Proofs.YtldppmjjgljinaaGreatDoor
