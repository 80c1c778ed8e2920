/- A path is the path of its parts, and its last part in its parent: the plain law. No program in sight. -/
import Derived.Test.YtgojagdjlebnnaaDoorPathI
import Derived.Test.YtgojagdjlebnnaaDoorBehindL
namespace Go.Proofs.YtgojagdjlebnnaaDoor

theorem joinTail_cons (x : List UInt8) (r : List (List UInt8)) : Lib.joinTail [47] (x :: r) = 47 :: Lib.join (x :: r) [47] := by
  rw [Lib.join_cons]; simp [Lib.joinTail]

theorem join_split : ∀ (l cur : List UInt8), Lib.join (splitAux cur l) [47] = cur ++ l
  | [], cur => by simp [splitAux, Lib.join_one]
  | c :: cs, cur => by
    by_cases hc : c = 47
    · rw [splitAux, if_pos hc, Lib.join_cons]
      have ih := join_split cs []
      match h : splitAux [] cs with
      | [] => exact absurd h (splitAux_ne cs [])
      | x :: r =>
        rw [h] at ih
        rw [joinTail_cons, ih, hc]; rfl
    · rw [splitAux, if_neg hc, join_split cs _]; simp
theorem join_pieces (l : List UInt8) : Lib.join (piecesL l) [47] = l := join_split l []

theorem may_parts {l : List UInt8} (h : mayL l = true) : l.length ≤ 160 ∧ (aheadL l).length ≤ 111 ∧ (piecesL l).length ≤ 6 ∧ ∀ x ∈ piecesL l, nameB x = true := by
  unfold mayL at h
  simp only [Bool.and_eq_true, decide_eq_true_eq, List.all_eq_true] at h
  exact ⟨h.1.1, h.1.2, h.2.1, h.2.2⟩
theorem may_of {l : List UInt8} (h1 : l.length ≤ 160) (h2 : (aheadL l).length ≤ 111) (h3 : (piecesL l).length ≤ 6) (h4 : ∀ x ∈ piecesL l, nameB x = true) : mayL l = true := by
  unfold mayL
  simp only [Bool.and_eq_true, decide_eq_true_eq, List.all_eq_true]
  exact ⟨⟨h1, h2⟩, h3, h4⟩

theorem pieces_len (s : ByteArray) : (piecesOf s).length = (piecesL s.toList).length := by rw [← piecesOf_toList, List.length_map]
theorem pieces_all {s : ByteArray} {p : List UInt8 → Bool} (h : ∀ x ∈ piecesL s.toList, p x = true) : (piecesOf s).all (fun x => p x.toList) = true := by
  rw [List.all_eq_true]
  intro x hx
  exact h _ (by rw [← piecesOf_toList]; exact List.mem_map.2 ⟨x, hx, rfl⟩)

theorem back_len (s : ByteArray) (h : mayB s = true) : (piecesOf s).length ≤ 6 := by
  rw [pieces_len]; exact (may_parts (by rw [← mayB_list]; exact h)).2.2.1

theorem back_join (s : ByteArray) (h : mayB s = true) : joinR (piecesOf s) = s ∧ joinOk (piecesOf s) = true := by
  have hs : joinS (piecesOf s) = s := by
    unfold joinS
    rw [piecesOf_toList, join_pieces, ← eq_bsL]
  have hp := may_parts (by rw [← mayB_list]; exact h)
  have hn : namesB (piecesOf s) = true := by
    unfold namesB
    rw [pieces_all hp.2.2.2]
    have h1 := back_len s h
    have h2 := piecesOf_len s
    simp only [Bool.and_eq_true, decide_eq_true_eq]
    exact ⟨⟨by omega, h1⟩, trivial⟩
  have ho : joinOk (piecesOf s) = true := by
    unfold joinOk; rw [hn, hs, h]; rfl
  exact ⟨by unfold joinR; rw [ho, hs]; rfl, ho⟩

theorem back_base (s : ByteArray) (h : mayB s = true) : nameB (baseS s).toList = true := by
  rw [(split_toList s).2]
  exact (may_parts (by rw [← mayB_list]; exact h)).2.2.2 _ (List.getLast_mem _)

theorem nameB_nil : nameB [] = false := rfl

theorem aheadL_le (l : List UInt8) : (aheadL l).length ≤ l.length := by unfold aheadL; rw [List.length_take]; omega

theorem back_parent (s : ByteArray) (h : mayB s = true) :
    ((parentS s).toList.isEmpty = true → baseS s = s ∧ piecesOf s = [s]) ∧
    ((parentS s).toList.isEmpty = false → parentS s ++ ⟨#[47]⟩ ++ baseS s = s ∧ mayB (parentS s) = true ∧ withinB s (parentS s) = true) := by
  have hp := may_parts (by rw [← mayB_list]; exact h)
  have hsp := split_toList s
  rcases last_slash s.toList with hno | ⟨a, b, hl, hb⟩
  · have e1 := aheadL_no hno
    have e2 := baseL_no hno
    rw [e1] at hsp
    rw [e2] at hsp
    refine ⟨fun _ => ⟨ba_ext hsp.2, ?_⟩, fun hf => ?_⟩
    · apply map_toList_inj
      rw [piecesOf_toList]
      unfold piecesL
      rw [splitAux_no _ _ hno]; rfl
    · rw [hsp.1] at hf; cases hf
  · have e1 : aheadL s.toList = a := by rw [hl]; exact aheadL_at a b hb
    have e2 : baseL s.toList = b := by rw [hl]; exact baseL_at a b hb
    have e3 : piecesL s.toList = piecesL a ++ [b] := by
      rw [hl]; unfold piecesL; rw [splitAux_at, splitAux_no b [] hb]; rfl
    rw [e1] at hsp
    rw [e2] at hsp
    rw [e1, e3] at hp
    obtain ⟨h160, h111, h6, hall⟩ := hp
    refine ⟨fun ht => ?_, fun _ => ?_⟩
    · exfalso
      rw [hsp.1] at ht
      have : a = [] := by cases a with | nil => rfl | cons x y => cases ht
      subst this
      have := hall [] (by simp [piecesL, splitAux])
      rw [nameB_nil] at this; cases this
    · have hm : mayB (parentS s) = true := by
        rw [mayB_list, hsp.1]
        have := aheadL_le a
        refine may_of (by omega) (by omega) ?_ (fun x hx => hall x (by simp [hx]))
        rw [List.length_append] at h6; omega
      refine ⟨ba_ext ?_, hm, ?_⟩
      · rw [toList_append, toList_append, hsp.1, hsp.2, hl, show (⟨#[47]⟩ : ByteArray).toList = [47] from toList_mk [47]]
        simp
      · unfold withinB
        rw [h, hm, (hasPrefix_iff _ _).2 ⟨b, by rw [hsp.1, hl]; simp⟩]
        simp
end Go.Proofs.YtgojagdjlebnnaaDoor
