/- Contracts of caravan/path: Name, split, beside, Cmp; of caravanlaw02: cut. Plain specifications on lists of bytes. -/
import Derived.Test.YtldppmjjgljinaaGreatDoorBase
namespace Go.Proofs.YtldppmjjgljinaaGreatDoor
open Go.RowKit

/-- a byte that may stand in a name -/
def okByte (c : UInt8) : Bool := !(decide ((c.toNat : Int) < 32) || (c.toNat : Int) == 127 || (c.toNat : Int) == 47)

def nameB (l : List UInt8) : Bool := decide (1 ≤ l.length) && decide (l.length ≤ 48) && !(l == [46]) && !(l == [46, 46]) && l.all okByte

theorem nameB_bad (s : ByteArray) (k : Nat) (h : k < s.size) (hb : okByte s[k] = false) : nameB s.toList = false := by
  have hm : s[k] ∈ s.toList := by
    rw [Lib.toList_data]; exact List.getElem_mem (l := s.data.toList) (n := k) (by simpa using h)
  have : s.toList.all okByte = false := by
    rw [List.all_eq_false]; exact ⟨_, hm, by simp [hb]⟩
  simp [nameB, this]
theorem nameB_good (s : ByteArray) (h1 : 1 ≤ s.size) (h2 : s.size ≤ 48) (h3 : (s.toList == [46]) = false) (h4 : (s.toList == [46, 46]) = false) (h : s.toList.all okByte = true) : nameB s.toList = true := by
  simp only [nameB, h3, h4, h, len_toList]; simp [h1, h2]

set_option maxHeartbeats 400000 in
theorem name_any (s : ByteArray) (w : World) (hs : s.size ≤ maxLen) :
    Calls Tryz.prog 158 #[.string s] w fun e w' => e = .returned (.bool (nameB s.toList)) ∧ w' = w := by
  unfold maxLen at hs
  by_cases h1 : 1 ≤ s.size ∧ s.size ≤ 48
  · obtain ⟨h1, h2⟩ := h1
    cases h3 : s.toList == [46]
    · cases h4 : s.toList == [46, 46]
      · go_enter Tryz.func158, Tryz.ntmps158
        go_wp2
        go_loop [3, 22] (fun _ i => ∃ k : Nat, k ≤ s.size ∧ i = .int .i64 k ∧ (s.toList.take k).all okByte = true) (fun _ i => s.size - (intOf i).toNat)
        case atStart => exact ⟨0, Nat.zero_le _, rfl, rfl⟩
        case round =>
          obtain ⟨k, hk, rfl, hall⟩ := hrel
          have H := Lib.hid hall
          clear hall
          by_cases hlt : k < s.size
          · have HB := Lib.hid (nameB_bad s k hlt)
            have HT := Lib.hid (take_snoc s k hlt)
            cases hb : okByte s[k]
            · have hb' := hb
              have H2 := Lib.hid hb
              clear hb
              simp only [okByte, Bool.not_eq_false', Bool.or_eq_true, decide_eq_true_eq, beq_iff_eq] at hb'
              go_wp2
              all_goals (first | (go_ret; exact ⟨ret_bool (HB.out H2.out).symm, rfl⟩) | (exfalso; simp at *; omega))
            · have hb' := hb
              have H2 := Lib.hid hb
              clear hb
              simp only [okByte, Bool.not_eq_true', Bool.or_eq_false_iff, decide_eq_false_iff_not] at hb'
              obtain ⟨⟨b1, b2⟩, b3⟩ := hb'
              go_wp2
              go_round
              case rel => exact ⟨k + 1, by omega, by go_num, by rw [HT.out, List.all_append, H.out]; simp [H2.out]⟩
              case measure => simp [intOf]; omega
          · have : k = s.size := by omega
            subst this
            go_wp2
            go_ret
            exact ⟨ret_bool (nameB_good s h1 h2 h3 h4 (by have := H.out; rwa [List.take_of_length_le (by rw [len_toList]; omega)] at this)).symm, rfl⟩
      · go_enter Tryz.func158, Tryz.ntmps158
        go_wp2
        go_ret
        exact ⟨ret_bool (by simp [nameB, h4]), rfl⟩
    · go_enter Tryz.func158, Tryz.ntmps158
      go_wp2
      go_ret
      exact ⟨ret_bool (by simp [nameB, h3]), rfl⟩
  · have hf : nameB s.toList = false := by
      simp only [nameB, len_toList]
      by_cases h : 1 ≤ s.size
      · have : ¬ s.size ≤ 48 := by omega
        simp [this]
      · simp [h]
    have HF := Lib.hid hf
    clear hf
    go_enter Tryz.func158, Tryz.ntmps158
    go_wp2
    all_goals (first | (go_ret; exact ⟨ret_bool HF.out.symm, rfl⟩) | (exfalso; simp at *; omega))
end Go.Proofs.YtldppmjjgljinaaGreatDoor
