/- Contracts of caravan/path: May. -/
import Derived.Test.YtgojagdjlebnnaaDoorPathB
namespace Go.Proofs.YtgojagdjlebnnaaDoor
open Go.RowKit

def mayB (s : ByteArray) : Bool := decide (s.size ≤ 160) && decide ((parentS s).size ≤ 111) && (decide ((piecesOf s).length ≤ 6) && (piecesOf s).all (fun x => nameB x.toList))

theorem parentS_le (s : ByteArray) : (parentS s).size ≤ s.size := by
  unfold parentS; simp; omega

theorem piecesOf_len (s : ByteArray) : (piecesOf s).length = Lib.countB s ⟨#[47]⟩ + 1 := Lib.splitB_all _ (by decide) 0 _ s rfl

theorem splitSlash (s : ByteArray) (w : World) (hs : s.size < 4294967281) (E : Env w) :
    Calls Tryd.prog 48 #[.string s, .string ⟨#[47]⟩] w fun e w' =>
      e = .returned (.slice (some ⟨w.heap.size, 0, none⟩) (piecesOf s).length (piecesOf s).length) ∧ w' = w.alloc (.cells ((piecesOf s).map Value.string).toArray 9) := by
  obtain ⟨m, hm⟩ := E.maxlen
  rw [piecesOf_len]
  exact Tryd.strings_Split s ⟨#[47]⟩ m _ hs hm (by decide)

theorem countB_le (s : ByteArray) : Lib.countB s ⟨#[47]⟩ ≤ s.size := Lib.countB_le ⟨#[47]⟩ (by decide) s.size s (Nat.le_refl _)

theorem splitB_sizes (sep : ByteArray) : ∀ (n : Nat) (s : ByteArray) (x : ByteArray), x ∈ Lib.splitB sep 0 n s → x.size ≤ s.size := by
  intro n
  induction n with
  | zero => intro s x h; simp [Lib.splitB] at h; subst h; exact Nat.le_refl _
  | succ n ih =>
    intro s x h
    unfold Lib.splitB at h
    split at h
    · simp at h; subst h; exact Nat.le_refl _
    · rcases List.mem_cons.1 h with h | h
      · subst h; simp; omega
      · have := ih _ _ h; simp at this; omega

theorem piecesOf_sizes (s x : ByteArray) (h : x ∈ piecesOf s) : x.size ≤ s.size := splitB_sizes _ _ _ _ h

set_option maxHeartbeats 800000 in
theorem may_any (s : ByteArray) (w : World) (hs : s.size < 4294967281) (E : Env w) :
    Calls Tryd.prog 24 #[.string s] w fun e w' => e = .returned (.bool (mayB s)) ∧ Ext w w' := by
  have hlb := countB_le s
  have hln := piecesOf_len s
  by_cases h1 : s.size ≤ 160
  · have hp := parentS_le s
    by_cases h2 : (parentS s).size ≤ 111
    · have hfin : mayB s = (decide ((piecesOf s).length ≤ 6) && (piecesOf s).all (fun x => nameB x.toList)) := by simp [mayB, h1, h2]
      have HF := Lib.hid hfin
      clear hfin
      have HS := fun w => Lib.hid (split_any s w (by omega))
      have HSP := fun w E => Lib.hid (splitSlash s w hs E)
      have hsz := piecesOf_sizes s
      generalize hP : parentS s = P at *
      generalize piecesOf s = l at *
      have HP := Lib.hid hP
      clear hP
      have hl6 : l.length ≤ 4294967281 := by omega
      clear hln hlb
      go_enter Tryd.func24, Tryd.ntmps24
      go_wp2_with fail
      refine ((HS w).out).mono ?_
      rintro e w1 ⟨rfl, n, rfl⟩
      go_wp2_with fail
      refine ((HSP _ (E.ext ((Ext.refl w).drewN n))).out).mono ?_
      rintro e w1 ⟨rfl, rfl⟩
      go_wp2_with fail
      generalize hg : decide ((l.length : Int) ≤ 6) = g
      have HG := Lib.hid hg
      clear hg
      go_loopw [9, 31] (fun _ i wr => ∃ k : Nat, k ≤ l.length ∧ i = .int .i64 k ∧ wr = ((w.drewN n).alloc (.cells (l.map Value.string).toArray 9)).alloc (.cells #[.bool (g && (l.take k).all (fun x => nameB x.toList))] 4)) (fun _ i _ => l.length - (intOf i).toNat)
      case atStart => exact ⟨0, Nat.zero_le _, rfl, by simp⟩
      case round =>
        obtain ⟨k, hk, rfl, rfl⟩ := hrel
        generalize hgk : (g && (l.take k).all (fun x => nameB x.toList)) = gk
        have HGK := Lib.hid hgk
        clear hgk
        by_cases hlt : k < l.length
        · obtain ⟨x, hx⟩ : ∃ x, l[k]? = some x := ⟨_, List.getElem?_eq_getElem hlt⟩
          have hcx : ((((w.drewN n).alloc (.cells (l.map Value.string).toArray 9)).alloc (.cells #[.bool gk] 4))).cell? ⟨w.heap.size, k, none⟩ = some (.string x) := by
            rw [cell_alloc_old (by simp), cell_alloc_new (by simp)]; simp [hx]
          have hxs := hsz x (List.mem_of_getElem? hx)
          have HX := Lib.hid hx
          clear hx
          go_wp2_with fail
          refine (mayEach_any x _ gk _ (by unfold maxLen; omega) ?h1 ?h2).mono ?_
          case h1 => rw [cell_alloc_new (by simp)]; rfl
          case h2 => exact frozen_alloc_new (by simp)
          rintro e w1 ⟨rfl, rfl⟩
          go_wp2_with fail
          go_roundw
          case rel => exact ⟨k + 1, by omega, by go_num, by rw [List.take_add_one, HX.out, List.all_append, ← HGK.out]; simp [Bool.and_assoc]⟩
          case measure => simp [intOf]; omega
        · have : k = l.length := by omega
          subst this
          go_wp2_with fail
          go_ret
          exact ⟨ret_bool (by rw [HF.out, ← HGK.out, ← HG.out, List.take_length]; rw [show decide ((l.length : Int) ≤ 6) = decide (l.length ≤ 6) from by rw [decide_eq_decide]; omega]), (((Ext.refl w).drewN n).alloc _).alloc _⟩
    · have hf : mayB s = false := by simp [mayB, h2]
      have HF := Lib.hid hf
      clear hf
      have HS := fun w => Lib.hid (split_any s w (by omega))
      generalize parentS s = P at *
      go_enter Tryd.func24, Tryd.ntmps24
      go_wp2_with fail
      refine ((HS w).out).mono ?_
      rintro e w1 ⟨rfl, n, rfl⟩
      go_wp2_with fail
      go_ret
      exact ⟨ret_bool HF.out.symm, (Ext.refl w).drewN n⟩
  · have hf : mayB s = false := by simp [mayB, h1]
    have HF := Lib.hid hf
    clear hf
    have HS := fun w => Lib.hid (split_any s w (by omega))
    generalize parentS s = P at *
    go_enter Tryd.func24, Tryd.ntmps24
    go_wp2_with fail
    refine ((HS w).out).mono ?_
    rintro e w1 ⟨rfl, n, rfl⟩
    go_wp2_with fail
    go_ret
    exact ⟨ret_bool HF.out.symm, (Ext.refl w).drewN n⟩
end Go.Proofs.YtgojagdjlebnnaaDoor
