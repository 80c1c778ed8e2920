/- Contracts of caravan/caravanref02: Name, May, Parent, Base, Within. -/
import Derived.Test.YtgojagdjlebnnaaDoorRefA
namespace Go.Proofs.YtgojagdjlebnnaaDoor
open Go.RowKit

set_option maxHeartbeats 400000 in
theorem refName_any (s : ByteArray) (w : World) (hs : s.size ≤ maxLen) :
    Calls Tryd.prog 28 #[.string s] w fun e w' => e = .returned (.bool (nameB s.toList)) ∧ w' = w := by
  unfold maxLen at hs
  by_cases h1 : 1 ≤ s.size ∧ s.size ≤ 48
  · obtain ⟨h1, h2⟩ := h1
    cases h3 : s.toList == [46]
    · cases h4 : s.toList == [46, 46]
      · go_enter Tryd.func28, Tryd.ntmps28
        go_wp2
        go_loop [3] (fun i => ∃ k : Nat, k ≤ s.size ∧ i = .int .i64 k ∧ (s.toList.take k).all okByte = true) (fun i => s.size - (intOf i).toNat)
        case atStart => exact ⟨0, Nat.zero_le _, rfl, rfl⟩
        case round =>
          obtain ⟨k, hk, rfl, hall⟩ := hrel
          have H := Lib.hid hall
          clear hall
          by_cases hlt : k < s.size
          · have HB := Lib.hid (nameB_bad s k hlt)
            have HT := Lib.hid (take_snoc s k hlt)
            cases hb : okByte s[k]
            · have hb' := hb
              have H2 := Lib.hid hb
              clear hb
              simp only [okByte, Bool.not_eq_false', Bool.or_eq_true, decide_eq_true_eq, beq_iff_eq] at hb'
              go_wp2
              all_goals (first | (go_ret; exact ⟨ret_bool (HB.out H2.out).symm, rfl⟩) | (exfalso; simp at *; omega))
            · have hb' := hb
              have H2 := Lib.hid hb
              clear hb
              simp only [okByte, Bool.not_eq_true', Bool.or_eq_false_iff, decide_eq_false_iff_not] at hb'
              obtain ⟨⟨b1, b2⟩, b3⟩ := hb'
              go_wp2
              go_round
              case rel => exact ⟨k + 1, by omega, by go_num, by rw [HT.out, List.all_append, H.out]; simp [H2.out]⟩
              case measure => simp [intOf]; omega
          · have : k = s.size := by omega
            subst this
            go_wp2
            go_ret
            exact ⟨ret_bool (nameB_good s h1 h2 h3 h4 (by have := H.out; rwa [List.take_of_length_le (by rw [len_toList]; omega)] at this)).symm, rfl⟩
      · go_enter Tryd.func28, Tryd.ntmps28
        go_wp2
        go_ret
        exact ⟨ret_bool (by simp [nameB, h4]), rfl⟩
    · go_enter Tryd.func28, Tryd.ntmps28
      go_wp2
      go_ret
      exact ⟨ret_bool (by simp [nameB, h3]), rfl⟩
  · have hf : nameB s.toList = false := by
      simp only [nameB, len_toList]
      by_cases h : 1 ≤ s.size
      · have : ¬ s.size ≤ 48 := by omega
        simp [this]
      · simp [h]
    have HF := Lib.hid hf
    clear hf
    go_enter Tryd.func28, Tryd.ntmps28
    go_wp2
    all_goals (first | (go_ret; exact ⟨ret_bool HF.out.symm, rfl⟩) | (exfalso; simp at *; omega))

set_option maxHeartbeats 1600000 in
theorem refMay_any (s : ByteArray) (w : World) (hs : s.size < 4294967281) :
    Calls Tryd.prog 29 #[.string s] w fun e w' => e = .returned (.bool (mayB s)) ∧ Ext w w' := by
  have hpar := parentS_le s
  have HPC := Lib.hid (pieces_of s w hs)
  have HAH := fun w => Lib.hid (ahead_any s w hs)
  have hsz := piecesOf_sizes s
  have hln := piecesOf_len s
  have hlb := countB_le s
  have hfin : mayB s = (decide (s.size ≤ 160) && decide ((parentS s).size ≤ 111) && (decide ((piecesOf s).length ≤ 6) && (piecesOf s).all (fun x => nameB x.toList))) := rfl
  have HF := Lib.hid hfin
  clear hfin
  generalize parentS s = P at *
  have hne : (piecesOf s).length ≠ 0 := by omega
  have hl6 : (piecesOf s).length ≤ 4294967281 := by omega
  generalize piecesOf s = l at *
  clear hln hlb
  go_enter Tryd.func29, Tryd.ntmps29
  go_wp2_with fail
  refine HPC.out.mono ?_
  rintro e w1 ⟨v, rfl, hc, x1⟩
  rcases hc with ⟨_, h0⟩ | ⟨g, cap, rfl, hg, hcap, hm, hcells⟩
  · exact absurd (by simpa using congrArg List.length h0) hne
  · have hl2 : (List.map Value.string l).length = l.length := List.length_map ..
    rw [hl2] at hcap ⊢
    unfold maxLen at hm
    have HX := Lib.hid x1
    have HC := Lib.hid hcells
    clear x1 hcells hl2
    by_cases h1 : s.size ≤ 160
    · by_cases h2 : P.size ≤ 111
      · by_cases h3 : l.length ≤ 6
        · have HF2 := Lib.hid (show mayB s = l.all (fun x => nameB x.toList) by rw [HF.out]; simp [h1, h2, h3])
          go_wp2_with fail
          refine (HAH _).out.mono ?_
          rintro e w2 ⟨rfl, x2⟩
          go_wp2_with fail
          have X := HX.out.trans x2
          go_loopw [4] (fun i wr => ∃ k : Nat, k ≤ l.length ∧ i = .int .i64 k ∧ Hid ((l.take k).all (fun x => nameB x.toList) = true) ∧ Ext w1 wr) (fun i _ => l.length - (intOf i).toNat)
          case atStart => exact ⟨0, Nat.zero_le _, rfl, rfl, x2⟩
          case round =>
            obtain ⟨k, hk, rfl, H, xr⟩ := hrel
            by_cases hlt : k < l.length
            · obtain ⟨x, hx⟩ : ∃ x, l[k]? = some x := ⟨_, List.getElem?_eq_getElem hlt⟩
              have hcx : wr.cell? ⟨g, k, none⟩ = some (.string x) := (xr.cell hg).trans (HC.out k _ (by rw [List.getElem?_map, hx]; rfl))
              have hxs := hsz x (List.mem_of_getElem? hx)
              have HN := Lib.hid (refName_any x wr (by unfold maxLen; omega))
              have HX2 := Lib.hid hx
              clear hx
              cases hn : nameB x.toList
              · rw [hn] at HN
                have HF3 := Lib.hid (show mayB s = false by
                  rw [HF2.out, List.all_eq_false]; exact ⟨x, List.mem_of_getElem? HX2.out, by simp [hn]⟩)
                clear hn
                go_wp2_with fail
                refine HN.out.mono ?_
                rintro e w3 ⟨rfl, rfl⟩
                go_wp2_with fail
                go_ret
                exact ⟨ret_bool HF3.out.symm, HX.out.trans xr⟩
              · rw [hn] at HN
                have HK := Lib.hid hn
                clear hn
                go_wp2_with fail
                refine HN.out.mono ?_
                rintro e w3 ⟨rfl, rfl⟩
                go_wp2_with fail
                go_roundw
                case rel => exact ⟨k + 1, by omega, by go_num, by unfold Hid; rw [List.take_add_one, HX2.out, List.all_append, H.out]; simp [HK.out], xr⟩
                case measure => simp [intOf]; omega
            · have : k = l.length := by omega
              subst this
              go_wp2_with fail
              go_ret
              exact ⟨ret_bool (by rw [HF2.out]; have := H.out; rw [List.take_length] at this; exact this.symm), HX.out.trans xr⟩
        · have HF2 := Lib.hid (show mayB s = false by rw [HF.out]; simp [h3])
          go_wp2_with fail
          refine (HAH _).out.mono ?_
          rintro e w2 ⟨rfl, x2⟩
          go_wp2_with fail
          go_ret
          exact ⟨ret_bool HF2.out.symm, HX.out.trans x2⟩
      · have HF2 := Lib.hid (show mayB s = false by rw [HF.out]; simp [h2])
        go_wp2_with fail
        refine (HAH _).out.mono ?_
        rintro e w2 ⟨rfl, x2⟩
        go_wp2_with fail
        go_ret
        exact ⟨ret_bool HF2.out.symm, HX.out.trans x2⟩
    · have HF2 := Lib.hid (show mayB s = false by rw [HF.out]; simp [h1])
      go_wp2_with fail
      go_ret
      exact ⟨ret_bool HF2.out.symm, HX.out⟩
end Go.Proofs.YtgojagdjlebnnaaDoor
