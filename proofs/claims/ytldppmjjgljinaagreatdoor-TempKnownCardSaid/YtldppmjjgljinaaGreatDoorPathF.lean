/- Contracts of caravan/path.Cmp and of the document's Cmp. -/
import Derived.Test.YtldppmjjgljinaaGreatDoorBehindL
namespace Go.Proofs.YtldppmjjgljinaaGreatDoor
open Go.RowKit

theorem drew2 (w : World) (a b : Nat) : ∃ n, (w.drewN a).drewN b = w.drewN n := ⟨_, World.drewN_drewN w a b⟩

set_option maxHeartbeats 1600000 in
theorem cmp_draws (s t : ByteArray) (w : World) (hs : s.size ≤ maxLen) (_ht : t.size ≤ maxLen) :
    Calls Tryz.prog 31 #[.string s, .string t] w fun e w' => e = .returned (.int .i64 (cmpL s.toList t.toList)) ∧ ∃ n, w' = w.drewN n := by
  unfold maxLen at hs _ht
  go_enter Tryz.func31, Tryz.ntmps31
  go_wp2
  go_step3
  go_wp2
  go_step3
  go_wp2
  go_loopw [5] (fun i wr => ∃ k : Nat, k ≤ s.size ∧ k ≤ t.size ∧ i = .int .i64 k ∧ Hid (cmpL s.toList t.toList = cmpL (s.toList.drop k) (t.toList.drop k)) ∧ ∃ m, wr = w.drewN m) (fun i _ => s.size - (intOf i).toNat)
  case atStart => exact ⟨0, Nat.zero_le _, Nat.zero_le _, rfl, rfl, 0, rfl⟩
  case round =>
    obtain ⟨k, hk1, hk2, rfl, H, m, rfl⟩ := hrel
    have HL1 := Lib.hid (len_toList s)
    have HL2 := Lib.hid (len_toList t)
    by_cases h1 : k < s.size
    · by_cases h2 : k < t.size
      · have G1 := Lib.hid (getElem_toList s k h1)
        have G2 := Lib.hid (getElem_toList t k h2)
        by_cases he : s[k] = t[k]
        · have hq : ((s[k].toNat : Int) == t[k].toNat) = true := by simp [he]
          have hq2 : ((s[k].toNat : Int) != t[k].toNat) = false := by simp [he]
          have HN := Lib.hid (H.out.trans (cmpL_same G1.out (by rw [he]; exact G2.out)))
          clear he H
          go_wp2
          go_quiet (fail)
          go_wp2
          go_roundw
          case rel => exact ⟨k + 1, by omega, by omega, by go_num, HN, _, rfl⟩
          case measure => simp [intOf]; omega
        · have hq := toNat_ne he
          have hq2 : ((s[k].toNat : Int) != t[k].toNat) = true := by simp [bne, hq]
          have HN := Lib.hid (H.out.trans (cmpL_diff G1.out G2.out he))
          have n1 : ((k : Int) == s.size) = false := by rw [beq_eq_false_iff_ne]; omega
          have n2 : ((k : Int) == t.size) = false := by rw [beq_eq_false_iff_ne]; omega
          clear he H
          by_cases c1 : s[k] = 47
          · have d1 : ((s[k].toNat : Int) == 47) = true := by simp [c1]
            have HN2 := Lib.hid (HN.out.trans (by rw [if_pos c1]))
            clear c1
            go_wp2
            go_quiet (fail)
            go_wp2
            try rw [Exit.noGoto_ret]
            go_ret
            exact ⟨ret_int HN2.out.symm, _, rfl⟩
          · have d1 := toNat_ne47 c1
            have HN1 := Lib.hid (HN.out.trans (by rw [if_neg c1]))
            clear c1 HN
            by_cases c2 : t[k] = 47
            · have d2 : ((t[k].toNat : Int) == 47) = true := by simp [c2]
              have HN2 := Lib.hid (HN1.out.trans (by rw [if_pos c2]))
              clear c2
              go_wp2
              go_quiet (fail)
              go_wp2
              try rw [Exit.noGoto_ret]
              go_ret
              exact ⟨ret_int HN2.out.symm, _, rfl⟩
            · have d2 := toNat_ne47 c2
              have HN2 := Lib.hid (HN1.out.trans (by rw [if_neg c2]))
              clear c2 HN1
              by_cases c3 : s[k].toNat < t[k].toNat
              · have HN3 := Lib.hid (HN2.out.trans (by rw [if_pos c3]))
                have d3 : (s[k].toNat : Int) < t[k].toNat := by omega
                clear c3 HN2
                go_wp2
                go_quiet (fail)
                go_wp2
                go_quiet (fail)
                go_wp2
                try rw [Exit.noGoto_ret]
                go_ret
                exact ⟨ret_int HN3.out.symm, drew2 _ _ _⟩
              · have HN3 := Lib.hid (HN2.out.trans (by rw [if_neg c3]))
                have d3 : ¬ (s[k].toNat : Int) < t[k].toNat := by omega
                clear c3 HN2
                go_wp2
                go_quiet (fail)
                go_wp2
                go_quiet (fail)
                go_wp2
                try rw [Exit.noGoto_ret]
                go_ret
                exact ⟨ret_int HN3.out.symm, drew2 _ _ _⟩
      · have n1 : ((k : Int) == s.size) = false := by rw [beq_eq_false_iff_ne]; omega
        have n2 : ((k : Int) == t.size) = true := by rw [beq_iff_eq]; omega
        have HN := Lib.hid (H.out.trans (cmpL_right (by rw [HL1.out]; omega) (by rw [HL2.out]; omega)))
        go_wp2
        try rw [Exit.noGoto_ret]
        go_ret
        exact ⟨ret_int HN.out.symm, m, rfl⟩
    · have n1 : ((k : Int) == s.size) = true := by rw [beq_iff_eq]; omega
      by_cases h2 : k < t.size
      · have n2 : ((k : Int) == t.size) = false := by rw [beq_eq_false_iff_ne]; omega
        have HN := Lib.hid (H.out.trans (cmpL_left (by rw [HL1.out]; omega) (by rw [HL2.out]; omega)))
        go_wp2
        try rw [Exit.noGoto_ret]
        go_ret
        exact ⟨ret_int HN.out.symm, m, rfl⟩
      · have n2 : ((k : Int) == t.size) = true := by rw [beq_iff_eq]; omega
        have HN := Lib.hid (H.out.trans (cmpL_both (by rw [HL1.out]; omega) (by rw [HL2.out]; omega)))
        go_wp2
        try rw [Exit.noGoto_ret]
        go_ret
        exact ⟨ret_int HN.out.symm, m, rfl⟩
theorem cmp_any (s t : ByteArray) (w : World) (hs : s.size ≤ maxLen) (ht : t.size ≤ maxLen) :
    Calls Tryz.prog 31 #[.string s, .string t] w fun e w' => e = .returned (.int .i64 (cmpL s.toList t.toList)) ∧ Ext w w' :=
  (cmp_draws s t w hs ht).mono fun _ _ ⟨he, n, hw⟩ => ⟨he, hw ▸ (Ext.refl w).drewN n⟩
end Go.Proofs.YtldppmjjgljinaaGreatDoor
