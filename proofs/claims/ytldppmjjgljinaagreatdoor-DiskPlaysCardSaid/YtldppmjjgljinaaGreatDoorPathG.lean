/- Contracts of the document's rank and Cmp; the walks of the laws PathCompares and PathOrder. -/
import Derived.Test.YtldppmjjgljinaaGreatDoorPathF
namespace Go.Proofs.YtldppmjjgljinaaGreatDoor
open Go.RowKit

set_option maxHeartbeats 800000 in
theorem rank_any (s : ByteArray) (k : Nat) (w : World) (_hs : s.size < 4611686018427387904) (_hk : k < 4611686018427387904) :
    Calls Tryz.prog 249 #[.string s, .int .i64 k] w fun e w' => e = .returned (.int .i64 (rankL s.toList k)) ∧ w' = w := by
  by_cases h : k < s.size
  · have G := Lib.hid (getElem_toList s k h)
    have HR := Lib.hid (show rankL s.toList k = (if s[k] = 47 then (1 : Int) else 2 + (s[k].toNat : Int)) from by unfold rankL; rw [G.out])
    by_cases c : s[k] = 47
    · have d1 : ((s[k].toNat : Int) == 47) = true := by simp [c]
      have HN := Lib.hid (HR.out.trans (by rw [if_pos c]))
      clear c
      go_enter Tryz.func249, Tryz.ntmps249
      go_wp2
      go_ret
      exact ⟨ret_int HN.out.symm, rfl⟩
    · have d1 := toNat_ne47 c
      have HN := Lib.hid (HR.out.trans (by rw [if_neg c]))
      clear c
      have hb : s[k].toNat < 256 := s[k].toNat_lt
      go_enter Tryz.func249, Tryz.ntmps249
      go_wp2
      go_ret
      exact ⟨ret_int (by rw [HN.out]), rfl⟩
  · have HN := Lib.hid (show rankL s.toList k = 0 from by unfold rankL; rw [List.getElem?_eq_none (by rw [len_toList]; omega)])
    go_enter Tryz.func249, Tryz.ntmps249
    go_wp2
    go_ret
    exact ⟨ret_int HN.out.symm, rfl⟩

/-- What the ranks say of the order, at one place. -/
theorem rank_cmp (l m : List UInt8) (k : Nat) :
    (rankL l k < rankL m k → cmpL (l.drop k) (m.drop k) = -1) ∧ (rankL m k < rankL l k → cmpL (l.drop k) (m.drop k) = 1) ∧
    (rankL l k = rankL m k → cmpL (l.drop k) (m.drop k) = cmpL (l.drop (k + 1)) (m.drop (k + 1))) := by
  by_cases h1 : k < l.length
  · obtain ⟨x, hx⟩ : ∃ x, l[k]? = some x := ⟨_, List.getElem?_eq_getElem h1⟩
    by_cases h2 : k < m.length
    · obtain ⟨y, hy⟩ : ∃ y, m[k]? = some y := ⟨_, List.getElem?_eq_getElem h2⟩
      simp only [rankL, hx, hy]
      by_cases e : x = y
      · subst e
        exact ⟨fun h => by omega, fun h => by omega, fun _ => cmpL_same hx hy⟩
      · have hn : x.toNat ≠ y.toNat := fun h => e (UInt8.toNat_inj.1 h)
        rw [cmpL_diff hx hy e]
        by_cases c1 : x = 47
        · have c2 : ¬ y = 47 := fun h => e (c1.trans h.symm)
          simp only [if_pos c1, if_neg c2]
          exact ⟨fun _ => by trivial, fun h => by omega, fun h => by omega⟩
        · by_cases c2 : y = 47
          · simp only [if_pos c2, if_neg c1]
            exact ⟨fun h => by omega, fun _ => by trivial, fun h => by omega⟩
          · simp only [if_neg c1, if_neg c2]
            by_cases c3 : x.toNat < y.toNat
            · simp only [if_pos c3]
              exact ⟨fun _ => by trivial, fun h => by omega, fun h => by omega⟩
            · simp only [if_neg c3]
              exact ⟨fun h => by omega, fun _ => by trivial, fun h => by omega⟩
    · have hy : m[k]? = none := List.getElem?_eq_none (by omega)
      simp only [rankL, hx, hy]
      rw [cmpL_right h1 (by omega)]
      refine ⟨fun h => ?_, fun _ => by trivial, fun h => ?_⟩ <;> (exfalso; split at h <;> omega)
  · have hx : l[k]? = none := List.getElem?_eq_none (by omega)
    by_cases h2 : k < m.length
    · obtain ⟨y, hy⟩ : ∃ y, m[k]? = some y := ⟨_, List.getElem?_eq_getElem h2⟩
      simp only [rankL, hx, hy]
      rw [cmpL_left (by omega) h2]
      refine ⟨fun _ => by trivial, fun h => ?_, fun h => ?_⟩ <;> (exfalso; split at h <;> omega)
    · have hy : m[k]? = none := List.getElem?_eq_none (by omega)
      simp only [rankL, hx, hy]
      rw [cmpL_both (by omega) (by omega), cmpL_both (by omega) (by omega)]
      exact ⟨fun h => by omega, fun h => by omega, fun _ => by trivial⟩

set_option maxHeartbeats 1600000 in
theorem refCmp_any (s t : ByteArray) (w : World) (hs : s.size < 2305843009213693952) (ht : t.size < 2305843009213693952) :
    Calls Tryz.prog 208 #[.string s, .string t] w fun e w' => e = .returned (.int .i64 (cmpL s.toList t.toList)) ∧ Ext w w' := by
  have HR := fun k w hk => Lib.hid (rank_any s k w (by omega) hk)
  have HT := fun k w hk => Lib.hid (rank_any t k w (by omega) hk)
  have HL1 := Lib.hid (len_toList s)
  have HL2 := Lib.hid (len_toList t)
  go_enter Tryz.func208, Tryz.ntmps208
  go_wp2
  go_loopw [5, 6, 7] (fun i _ _ wr => ∃ k : Nat, k ≤ s.size + t.size + 1 ∧ i = .int .i64 k ∧ Hid (cmpL s.toList t.toList = cmpL (s.toList.drop k) (t.toList.drop k)) ∧ Ext w wr) (fun i _ _ _ => s.size + t.size + 1 - (intOf i).toNat)
  case atStart => exact ⟨0, Nat.zero_le _, rfl, rfl, Ext.refl _⟩
  case round =>
    obtain ⟨k, hk, rfl, H, xr⟩ := hrel
    have HK := HR k wr (by omega)
    have HK2 := HT k wr (by omega)
    have hc := rank_cmp s.toList t.toList k
    generalize rankL s.toList k = x at *
    generalize rankL t.toList k = y at *
    obtain ⟨g1, g2, g3⟩ := hc
    by_cases h1 : k ≤ s.size ∨ k ≤ t.size
    · have hs1 : k ≤ s.size ∨ (¬ k ≤ s.size ∧ k ≤ t.size) := by omega
      rcases Int.lt_trichotomy x y with hlt | heq | hgt
      · have HN := Lib.hid (H.out.trans (g1 hlt))
        clear g1 g2 g3 H h1
        rcases hs1 with hs1 | ⟨hs1, hs2⟩
        all_goals
          go_wp2_with fail
          refine HK.out.mono ?_
          rintro e w1 ⟨rfl, rfl⟩
          go_wp2_with fail
          refine HK2.out.mono ?_
          rintro e w1 ⟨rfl, rfl⟩
          go_wp2_with fail
          go_ret
          exact ⟨ret_int HN.out.symm, xr⟩
      · have HN := Lib.hid (H.out.trans (g3 heq))
        subst heq
        clear g1 g2 g3 H h1
        rcases hs1 with hs1 | ⟨hs1, hs2⟩
        all_goals
          go_wp2_with fail
          refine HK.out.mono ?_
          rintro e w1 ⟨rfl, rfl⟩
          go_wp2_with fail
          refine HK2.out.mono ?_
          rintro e w1 ⟨rfl, rfl⟩
          go_wp2_with fail
          go_roundw
          case rel => exact ⟨k + 1, by omega, by go_num, HN, xr⟩
          case measure => simp [intOf]; omega
      · have HN := Lib.hid (H.out.trans (g2 hgt))
        clear g1 g2 g3 H h1
        rcases hs1 with hs1 | ⟨hs1, hs2⟩
        all_goals
          go_wp2_with fail
          refine HK.out.mono ?_
          rintro e w1 ⟨rfl, rfl⟩
          go_wp2_with fail
          refine HK2.out.mono ?_
          rintro e w1 ⟨rfl, rfl⟩
          go_wp2_with fail
          go_ret
          exact ⟨ret_int HN.out.symm, xr⟩
    · have e1 : ¬ k ≤ s.size := by omega
      have e2 : ¬ k ≤ t.size := by omega
      have HN := Lib.hid (H.out.trans (cmpL_both (by rw [HL1.out]; omega) (by rw [HL2.out]; omega)))
      clear g1 g2 g3 H h1 HK HK2
      go_wp2_with fail
      go_ret
      exact ⟨ret_int HN.out.symm, xr⟩
end Go.Proofs.YtldppmjjgljinaaGreatDoor
