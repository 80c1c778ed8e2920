/- Contract of caravanref08's Lines. Printed by gen_ignb.py. -/
import Derived.Test.YtlabhbeacogfbaaDoorIgnA
namespace Go.Proofs.YtlabhbeacogfbaaDoor
open Go.RowKit

set_option maxRecDepth 100000 in
set_option maxHeartbeats 4000000 in
theorem lines_any (s : ByteArray) (w : World) (hs : s.size ≤ 4096) :
    Calls Tryd.prog 52 #[.string s] w fun e w' => ∃ (v : Value) (l : List ByteArray), e = .returned v ∧ l.map (·.toList) = linesL s.toList ∧ CellsAt w' v (l.map Value.string) ∧ (∀ g, v.ownBlock = some g → w.heap.size ≤ g) ∧ Ext w w' := by
  go_enter Tryd.func52, Tryd.ntmps52
  go_wp2
  go_loopw [3, 4, 5] (fun v fv iv wr => Hid (∃ (k f : Nat) (acc : List ByteArray) (raw : List Txt), k ≤ s.size + 1 ∧ f ≤ k ∧ iv = .int .i64 k ∧ fv = .int .i64 f ∧ acc.length ≤ k ∧ acc.map (·.toList) = raw.map trimT ∧
      ((k ≤ s.size ∧ nlL s.toList = raw ++ splitNl ((s.toList.drop f).take (k - f)) (s.toList.drop k)) ∨ (k = s.size + 1 ∧ nlL s.toList = raw)) ∧ wr.ownsRow w.heap.size 9 1 v acc.length (acc.map Value.string) ∧ Ext w wr))
    (fun _ _ iv _ => s.size + 1 - (intOf iv).toNat)
  case atStart => exact ⟨0, 0, [], [], Nat.zero_le _, Nat.zero_le _, rfl, rfl, Nat.zero_le _, rfl, .inl ⟨Nat.zero_le _, by simp [nlL]⟩, World.ownsRow_nil _ _ _ _, Ext.refl _⟩
  case round =>
    obtain ⟨k, f, acc, raw, hk, hfk, rfl, rfl, hacc, hm, hnl, hown, hx⟩ := hrel.out
    clear hrel
    have HM := Lib.hid hm
    have HO := Lib.hid hown
    have HX := Lib.hid hx
    clear hm hown hx
    by_cases hks : k ≤ s.size
    · have hnl2 : nlL s.toList = raw ++ splitNl ((s.toList.drop f).take (k - f)) (s.toList.drop k) := by
        rcases hnl with h | h
        · exact h.2
        · exact absurd h.1 (by omega)
      clear hnl
      by_cases hlt : k < s.size
      · obtain ⟨S1, S2⟩ := splitNl_step s f k hlt hfk
        by_cases hc : s[k] = 10
        · have d1 : ((s[k].toNat : Int) != 10) = false := by rw [hc]; rfl
          have HNX := Lib.hid (show (k + 1 ≤ s.size ∧ nlL s.toList = (raw ++ [(s.extract f k).toList]) ++ splitNl ((s.toList.drop (k + 1)).take (k + 1 - (k + 1))) (s.toList.drop (k + 1))) ∨ (k + 1 = s.size + 1 ∧ nlL s.toList = raw ++ [(s.extract f k).toList]) from .inl ⟨by omega, by rw [hnl2, S1 hc]; simp⟩)
          clear hc S1 S2 hnl2
          go_wp2_with fail
          go_loop [6] (fun av => ∃ a : Nat, f ≤ a ∧ a ≤ k ∧ av = .int .i64 a ∧ Hid (∀ (j : Nat) (hj : j < s.size), f ≤ j → j < a → blankB s[j] = true)) (fun av => k - (intOf av).toNat)
          case atStart => exact ⟨f, Nat.le_refl _, hfk, rfl, fun j hj h1 h2 => absurd h2 (by omega)⟩
          case round =>
            obtain ⟨a, hfa, hak, rfl, HAk⟩ := hrel
            by_cases hak2 : a < k
            · have ha2 : a < s.size := by omega
              have hd : blankB s[a] = true ∨ blankB s[a] = false := by cases blankB s[a] <;> simp
              rcases hd with hd | hd
              · have HN := Lib.hid (show ∀ (j : Nat) (hj : j < s.size), f ≤ j → j < a + 1 → blankB s[j] = true from fun j hj h1 h2 => by
                  by_cases e : j = a
                  · subst e; exact hd
                  · exact HAk.out j hj h1 (by omega))
                rcases blank_cases hd with h | h
                · have q1 : ((s[a].toNat : Int) == 32) = true := by rw [h]; rfl
                  clear hd h
                  go_wp2_with fail
                  go_round
                  case rel => exact ⟨a + 1, by omega, by omega, by go_num, HN.out⟩
                  case measure => simp [intOf] <;> omega
                · have q1 : ((s[a].toNat : Int) == 32) = false := by rw [h]; rfl
                  have q2 : ((s[a].toNat : Int) == 9) = true := by rw [h]; rfl
                  clear hd h
                  go_wp2_with fail
                  go_round
                  case rel => exact ⟨a + 1, by omega, by omega, by go_num, HN.out⟩
                  case measure => simp [intOf] <;> omega
              · have HAs := Lib.hid (show a < k → ∃ h : a < s.size, blankB s[a] = false from fun _ => ⟨ha2, hd⟩)
                obtain ⟨q1, q2⟩ := blank_not hd
                clear hd
                go_wp2_with fail
                clear q1 q2
                go_loop [7] (fun bv => ∃ b : Nat, a ≤ b ∧ b ≤ k ∧ bv = .int .i64 b ∧ Hid (∀ (j : Nat) (hj : j < s.size), b ≤ j → j < k → blankB s[j] = true)) (fun bv => (intOf bv).toNat)
                case atStart => exact ⟨k, hak, Nat.le_refl _, rfl, fun j hj h1 h2 => absurd h2 (by omega)⟩
                case round =>
                  obtain ⟨b, hab, hbk, rfl, HBk⟩ := hrel
                  by_cases hba : a < b
                  · obtain ⟨b0, hb0⟩ : ∃ b0, b = b0 + 1 := ⟨b - 1, by omega⟩
                    subst hb0
                    have hb2 : b0 < s.size := by omega
                    have hd : blankB s[b0] = true ∨ blankB s[b0] = false := by cases blankB s[b0] <;> simp
                    rcases hd with hd | hd
                    · have HN := Lib.hid (show ∀ (j : Nat) (hj : j < s.size), b0 ≤ j → j < k → blankB s[j] = true from fun j hj h1 h2 => by
                        by_cases e : j = b0
                        · subst e; exact hd
                        · exact HBk.out j hj (by omega) h2)
                      rcases blank_cases hd with h | h
                      · have q1 : ((s[b0].toNat : Int) == 32) = true := by rw [h]; rfl
                        clear hd h
                        go_wp2_with fail
                        go_round
                        case rel => exact ⟨b0, by omega, by omega, by go_num, HN.out⟩
                        case measure => simp [intOf] <;> omega
                      · have q1 : ((s[b0].toNat : Int) == 32) = false := by rw [h]; rfl
                        have q2 : ((s[b0].toNat : Int) == 9) = true := by rw [h]; rfl
                        clear hd h
                        go_wp2_with fail
                        go_round
                        case rel => exact ⟨b0, by omega, by omega, by go_num, HN.out⟩
                        case measure => simp [intOf] <;> omega
                    · have HT := Lib.hid (trim_at s f a (b0 + 1) k (by omega) (by omega) (by omega) (by omega) HAk.out HBk.out HAs.out (fun _ => ⟨hb2, hd⟩))
                      obtain ⟨q1, q2⟩ := blank_not hd
                      clear hd
                      go_wp2_with (at_builtin; refine append_one el_string w.heap.size _ _ _ (HO.out.alloc _) wr.heap.size (.string (s.extract a (b0 + 1))) (.tmp 62) (.tmp 67) rfl rfl rfl rfl (by rw [cell_alloc_new rfl]; rfl) rfl (by omega) (by have := HX.out.size; simp; omega) ?_)
                      intro v' w1 hown1 hgr1 hv1
                      have HG1 := Lib.hid hown1
                      have HG2 := Lib.hid ((HX.out.alloc _).grown hgr1 (by have := HX.out.size; simp; omega) (own_block_ge HO.out))
                      clear hown1 hgr1 hv1
                      go_wp2
                      go_roundw
                      case rel => exact ⟨k + 1, k + 1, acc ++ [s.extract a (b0 + 1)], raw ++ [(s.extract f k).toList], by omega, by omega, by go_num, by go_num, by simp; omega, by rw [List.map_append, List.map_append, HM.out]; simp only [List.map_cons, List.map_nil]; rw [HT.out], HNX.out, by simpa using HG1.out, HG2.out⟩
                      case measure => simp [intOf] <;> omega
                  · obtain rfl : b = a := by omega
                    have HT := Lib.hid (show ByteArray.empty.toList = trimT (s.extract f k).toList from by
                      rw [← trim_at s f b b k (by omega) (by omega) (by omega) (by omega) HAk.out HBk.out HAs.out (fun h => absurd h (Nat.lt_irrefl _)), toList_extract, Nat.sub_self]; simp [Lib.toList_data])
                    go_wp2_with (at_builtin; refine append_one el_string w.heap.size _ _ _ (HO.out.alloc _) wr.heap.size (.string (ByteArray.empty)) (.tmp 62) (.tmp 67) rfl rfl rfl rfl (by rw [cell_alloc_new rfl]; rfl) rfl (by omega) (by have := HX.out.size; simp; omega) ?_)
                    intro v' w1 hown1 hgr1 hv1
                    have HG1 := Lib.hid hown1
                    have HG2 := Lib.hid ((HX.out.alloc _).grown hgr1 (by have := HX.out.size; simp; omega) (own_block_ge HO.out))
                    clear hown1 hgr1 hv1
                    go_wp2
                    go_roundw
                    case rel => exact ⟨k + 1, k + 1, acc ++ [ByteArray.empty], raw ++ [(s.extract f k).toList], by omega, by omega, by go_num, by go_num, by simp; omega, by rw [List.map_append, List.map_append, HM.out]; simp only [List.map_cons, List.map_nil]; rw [HT.out], HNX.out, by simpa using HG1.out, HG2.out⟩
                    case measure => simp [intOf] <;> omega
            · obtain rfl : a = k := by omega
              have HAs := Lib.hid (show a < a → ∃ h : a < s.size, blankB s[a] = false from fun h => absurd h (Nat.lt_irrefl _))
              go_wp2_with fail
              go_loop [7] (fun bv => bv = .int .i64 a) (fun _ => 0)
              case atStart => rfl
              case round =>
                obtain rfl := hrel
                have HT := Lib.hid (show ByteArray.empty.toList = trimT (s.extract f a).toList from by
                  rw [← trim_at s f a a a (by omega) (by omega) (by omega) (by omega) HAk.out (fun j hj h1 h2 => absurd h2 (by omega)) HAs.out (fun h => absurd h (Nat.lt_irrefl _)), toList_extract, Nat.sub_self]; simp [Lib.toList_data])
                go_wp2_with (at_builtin; refine append_one el_string w.heap.size _ _ _ (HO.out.alloc _) wr.heap.size (.string (ByteArray.empty)) (.tmp 62) (.tmp 67) rfl rfl rfl rfl (by rw [cell_alloc_new rfl]; rfl) rfl (by omega) (by have := HX.out.size; simp; omega) ?_)
                intro v' w1 hown1 hgr1 hv1
                have HG1 := Lib.hid hown1
                have HG2 := Lib.hid ((HX.out.alloc _).grown hgr1 (by have := HX.out.size; simp; omega) (own_block_ge HO.out))
                clear hown1 hgr1 hv1
                go_wp2
                go_roundw
                case rel => exact ⟨a + 1, a + 1, acc ++ [ByteArray.empty], raw ++ [(s.extract f a).toList], by omega, by omega, by go_num, by go_num, by simp; omega, by rw [List.map_append, List.map_append, HM.out]; simp only [List.map_cons, List.map_nil]; rw [HT.out], HNX.out, by simpa using HG1.out, HG2.out⟩
                case measure => simp [intOf] <;> omega
        · have d1 : ((s[k].toNat : Int) != 10) = true := by rw [bne, beq_eq_false_iff_ne.2 (fun e => hc (UInt8.toNat_inj.1 (by simp; omega)))]; rfl
          have HNX := Lib.hid (show nlL s.toList = raw ++ splitNl ((s.toList.drop f).take (k + 1 - f)) (s.toList.drop (k + 1)) from by rw [hnl2, S2 hc])
          clear hc S1 S2 hnl2
          go_wp2_with fail
          go_roundw
          case rel => exact ⟨k + 1, f, acc, raw, by omega, by omega, by go_num, rfl, by omega, HM.out, .inl ⟨by omega, HNX.out⟩, HO.out, HX.out⟩
          case measure => simp [intOf] <;> omega
      · obtain rfl : k = s.size := by omega
        have HNX := Lib.hid (show nlL s.toList = raw ++ [(s.extract f s.size).toList] from by
          have hd : s.toList.drop s.size = [] := List.drop_of_length_le (by rw [len_toList]; exact Nat.le_refl _)
          rw [hnl2, hd]
          simp [splitNl, toList_extract])
        clear hnl2
        go_wp2_with fail
        go_loop [6] (fun av => ∃ a : Nat, f ≤ a ∧ a ≤ s.size ∧ av = .int .i64 a ∧ Hid (∀ (j : Nat) (hj : j < s.size), f ≤ j → j < a → blankB s[j] = true)) (fun av => s.size - (intOf av).toNat)
        case atStart => exact ⟨f, Nat.le_refl _, hfk, rfl, fun j hj h1 h2 => absurd h2 (by omega)⟩
        case round =>
          obtain ⟨a, hfa, hak, rfl, HAk⟩ := hrel
          by_cases hak2 : a < s.size
          · have ha2 : a < s.size := by omega
            have hd : blankB s[a] = true ∨ blankB s[a] = false := by cases blankB s[a] <;> simp
            rcases hd with hd | hd
            · have HN := Lib.hid (show ∀ (j : Nat) (hj : j < s.size), f ≤ j → j < a + 1 → blankB s[j] = true from fun j hj h1 h2 => by
                by_cases e : j = a
                · subst e; exact hd
                · exact HAk.out j hj h1 (by omega))
              rcases blank_cases hd with h | h
              · have q1 : ((s[a].toNat : Int) == 32) = true := by rw [h]; rfl
                clear hd h
                go_wp2_with fail
                go_round
                case rel => exact ⟨a + 1, by omega, by omega, by go_num, HN.out⟩
                case measure => simp [intOf] <;> omega
              · have q1 : ((s[a].toNat : Int) == 32) = false := by rw [h]; rfl
                have q2 : ((s[a].toNat : Int) == 9) = true := by rw [h]; rfl
                clear hd h
                go_wp2_with fail
                go_round
                case rel => exact ⟨a + 1, by omega, by omega, by go_num, HN.out⟩
                case measure => simp [intOf] <;> omega
            · have HAs := Lib.hid (show a < s.size → ∃ h : a < s.size, blankB s[a] = false from fun _ => ⟨ha2, hd⟩)
              obtain ⟨q1, q2⟩ := blank_not hd
              clear hd
              go_wp2_with fail
              clear q1 q2
              go_loop [7] (fun bv => ∃ b : Nat, a ≤ b ∧ b ≤ s.size ∧ bv = .int .i64 b ∧ Hid (∀ (j : Nat) (hj : j < s.size), b ≤ j → j < s.size → blankB s[j] = true)) (fun bv => (intOf bv).toNat)
              case atStart => exact ⟨s.size, hak, Nat.le_refl _, rfl, fun j hj h1 h2 => absurd h2 (by omega)⟩
              case round =>
                obtain ⟨b, hab, hbk, rfl, HBk⟩ := hrel
                by_cases hba : a < b
                · obtain ⟨b0, hb0⟩ : ∃ b0, b = b0 + 1 := ⟨b - 1, by omega⟩
                  subst hb0
                  have hb2 : b0 < s.size := by omega
                  have hd : blankB s[b0] = true ∨ blankB s[b0] = false := by cases blankB s[b0] <;> simp
                  rcases hd with hd | hd
                  · have HN := Lib.hid (show ∀ (j : Nat) (hj : j < s.size), b0 ≤ j → j < s.size → blankB s[j] = true from fun j hj h1 h2 => by
                      by_cases e : j = b0
                      · subst e; exact hd
                      · exact HBk.out j hj (by omega) h2)
                    rcases blank_cases hd with h | h
                    · have q1 : ((s[b0].toNat : Int) == 32) = true := by rw [h]; rfl
                      clear hd h
                      go_wp2_with fail
                      go_round
                      case rel => exact ⟨b0, by omega, by omega, by go_num, HN.out⟩
                      case measure => simp [intOf] <;> omega
                    · have q1 : ((s[b0].toNat : Int) == 32) = false := by rw [h]; rfl
                      have q2 : ((s[b0].toNat : Int) == 9) = true := by rw [h]; rfl
                      clear hd h
                      go_wp2_with fail
                      go_round
                      case rel => exact ⟨b0, by omega, by omega, by go_num, HN.out⟩
                      case measure => simp [intOf] <;> omega
                  · have HT := Lib.hid (trim_at s f a (b0 + 1) s.size (by omega) (by omega) (by omega) (by omega) HAk.out HBk.out HAs.out (fun _ => ⟨hb2, hd⟩))
                    obtain ⟨q1, q2⟩ := blank_not hd
                    clear hd
                    go_wp2_with (at_builtin; refine append_one el_string w.heap.size _ _ _ (HO.out.alloc _) wr.heap.size (.string (s.extract a (b0 + 1))) (.tmp 62) (.tmp 67) rfl rfl rfl rfl (by rw [cell_alloc_new rfl]; rfl) rfl (by omega) (by have := HX.out.size; simp; omega) ?_)
                    intro v' w1 hown1 hgr1 hv1
                    have HG1 := Lib.hid hown1
                    have HG2 := Lib.hid ((HX.out.alloc _).grown hgr1 (by have := HX.out.size; simp; omega) (own_block_ge HO.out))
                    clear hown1 hgr1 hv1
                    go_wp2
                    go_roundw
                    case rel => exact ⟨s.size + 1, s.size + 1, acc ++ [s.extract a (b0 + 1)], raw ++ [(s.extract f s.size).toList], by omega, by omega, by go_num, by go_num, by simp; omega, by rw [List.map_append, List.map_append, HM.out]; simp only [List.map_cons, List.map_nil]; rw [HT.out], .inr ⟨rfl, HNX.out⟩, by simpa using HG1.out, HG2.out⟩
                    case measure => simp [intOf] <;> omega
                · obtain rfl : b = a := by omega
                  have HT := Lib.hid (show ByteArray.empty.toList = trimT (s.extract f s.size).toList from by
                    rw [← trim_at s f b b s.size (by omega) (by omega) (by omega) (by omega) HAk.out HBk.out HAs.out (fun h => absurd h (Nat.lt_irrefl _)), toList_extract, Nat.sub_self]; simp [Lib.toList_data])
                  go_wp2_with (at_builtin; refine append_one el_string w.heap.size _ _ _ (HO.out.alloc _) wr.heap.size (.string (ByteArray.empty)) (.tmp 62) (.tmp 67) rfl rfl rfl rfl (by rw [cell_alloc_new rfl]; rfl) rfl (by omega) (by have := HX.out.size; simp; omega) ?_)
                  intro v' w1 hown1 hgr1 hv1
                  have HG1 := Lib.hid hown1
                  have HG2 := Lib.hid ((HX.out.alloc _).grown hgr1 (by have := HX.out.size; simp; omega) (own_block_ge HO.out))
                  clear hown1 hgr1 hv1
                  go_wp2
                  go_roundw
                  case rel => exact ⟨s.size + 1, s.size + 1, acc ++ [ByteArray.empty], raw ++ [(s.extract f s.size).toList], by omega, by omega, by go_num, by go_num, by simp; omega, by rw [List.map_append, List.map_append, HM.out]; simp only [List.map_cons, List.map_nil]; rw [HT.out], .inr ⟨rfl, HNX.out⟩, by simpa using HG1.out, HG2.out⟩
                  case measure => simp [intOf] <;> omega
          · obtain rfl : a = s.size := by omega
            have HAs := Lib.hid (show s.size < s.size → ∃ h : s.size < s.size, blankB s[s.size] = false from fun h => absurd h (Nat.lt_irrefl _))
            go_wp2_with fail
            go_loop [7] (fun bv => bv = .int .i64 s.size) (fun _ => 0)
            case atStart => rfl
            case round =>
              obtain rfl := hrel
              have HT := Lib.hid (show ByteArray.empty.toList = trimT (s.extract f s.size).toList from by
                rw [← trim_at s f s.size s.size s.size (by omega) (by omega) (by omega) (by omega) HAk.out (fun j hj h1 h2 => absurd h2 (by omega)) HAs.out (fun h => absurd h (Nat.lt_irrefl _)), toList_extract, Nat.sub_self]; simp [Lib.toList_data])
              go_wp2_with (at_builtin; refine append_one el_string w.heap.size _ _ _ (HO.out.alloc _) wr.heap.size (.string (ByteArray.empty)) (.tmp 62) (.tmp 67) rfl rfl rfl rfl (by rw [cell_alloc_new rfl]; rfl) rfl (by omega) (by have := HX.out.size; simp; omega) ?_)
              intro v' w1 hown1 hgr1 hv1
              have HG1 := Lib.hid hown1
              have HG2 := Lib.hid ((HX.out.alloc _).grown hgr1 (by have := HX.out.size; simp; omega) (own_block_ge HO.out))
              clear hown1 hgr1 hv1
              go_wp2
              go_roundw
              case rel => exact ⟨s.size + 1, s.size + 1, acc ++ [ByteArray.empty], raw ++ [(s.extract f s.size).toList], by omega, by omega, by go_num, by go_num, by simp; omega, by rw [List.map_append, List.map_append, HM.out]; simp only [List.map_cons, List.map_nil]; rw [HT.out], .inr ⟨rfl, HNX.out⟩, by simpa using HG1.out, HG2.out⟩
              case measure => simp [intOf] <;> omega
    · obtain rfl : k = s.size + 1 := by omega
      have hnl2 : nlL s.toList = raw := by
        rcases hnl with h | h
        · exact absurd h.1 (by omega)
        · exact h.2
      have HF := Lib.hid (show acc.map (·.toList) = linesL s.toList from by rw [HM.out, linesL, hnl2])
      clear hnl hnl2
      go_wp2_with fail
      go_ret
      exact ⟨_, acc, rfl, HF.out, CellsAt.of_owns (base := w.heap.size) (e := 9) (by simpa using HO.out), own_block_ge HO.out, HX.out⟩
end Go.Proofs.YtlabhbeacogfbaaDoor
