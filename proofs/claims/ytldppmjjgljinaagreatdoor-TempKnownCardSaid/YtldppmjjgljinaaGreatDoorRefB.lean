/- Contracts of caravan/caravanref02: Pieces, last, ahead. Contracts of caravan/caravanref02: Name, May, Parent, Base, Within. -/
import Derived.Test.YtldppmjjgljinaaGreatDoorPathC
import Derived.Test.YtldppmjjgljinaaGreatDoorOwn
namespace Go.Proofs.YtldppmjjgljinaaGreatDoor
open Go.RowKit

theorem el_string : Elem Tryz.prog 54 9 (.string ByteArray.empty) 16 := ⟨by kernel_rfl, by kernel_rfl, rfl, by decide⟩

theorem own_block_ge {w : World} {base : Nat} {e : TypeId} {v : Value} {n : Nat} {xs : List Value} (h : w.ownsRow base e 1 v n xs) : ∀ k, v.ownBlock = some k → base ≤ k := by
  intro k hk
  rcases h.2 with ⟨h1, _⟩ | ⟨g, cap, cur, hv, hb, _⟩
  · subst h1; simp [Value.ownBlock] at hk
  · subst hv; simp [Value.ownBlock] at hk; omega

/-- The list that the loop has built after k bytes. -/
theorem splitAux_step (s : ByteArray) (f k : Nat) (hk : k < s.size) (hf : f ≤ k) :
    (s[k] = 47 → splitAux ((s.toList.drop f).take (k - f)) (s.toList.drop k) = (s.extract f k).toList :: splitAux ((s.toList.drop (k + 1)).take (k + 1 - (k + 1))) (s.toList.drop (k + 1))) ∧
    (s[k] ≠ 47 → splitAux ((s.toList.drop f).take (k - f)) (s.toList.drop k) = splitAux ((s.toList.drop f).take (k + 1 - f)) (s.toList.drop (k + 1))) := by
  have hk' : k < s.toList.length := by rw [len_toList]; exact hk
  have hg : s.toList[k] = s[k] := by
    have := getElem_toList s k hk
    rw [List.getElem?_eq_getElem hk'] at this
    exact Option.some.inj this
  rw [List.drop_eq_getElem_cons hk', hg]
  constructor
  · intro h
    rw [splitAux, if_pos h, toList_extract]
    simp
  · intro h
    rw [splitAux, if_neg h, show k + 1 - f = (k - f) + 1 from by omega, List.take_add_one, List.getElem?_drop, show f + (k - f) = k from by omega, List.getElem?_eq_getElem hk', hg]
    rfl

set_option maxRecDepth 100000 in
set_option maxHeartbeats 1600000 in
theorem pieces_any (s : ByteArray) (w : World) (hs : s.size < 4294967281) :
    Calls Tryz.prog 167 #[.string s] w fun e w' => ∃ (v : Value) (l : List ByteArray), e = .returned v ∧ l.map (·.toList) = piecesL s.toList ∧ CellsAt w' v (l.map Value.string) ∧ Ext w w' := by
  go_enter Tryz.func167, Tryz.ntmps167
  go_wp2
  go_loopw [3, 4, 5] (fun v f i wr => ∃ (k from_ : Nat) (acc : List ByteArray), k ≤ s.size ∧ from_ ≤ k ∧ i = .int .i64 k ∧ f = .int .i64 from_ ∧ acc.length ≤ k ∧
      Hid (piecesL s.toList = acc.map (·.toList) ++ splitAux ((s.toList.drop from_).take (k - from_)) (s.toList.drop k)) ∧ wr.ownsRow w.heap.size 9 1 v acc.length (acc.map Value.string) ∧ Below w.heap.size w wr)
    (fun _ _ i _ => s.size - (intOf i).toNat)
  case atStart => exact ⟨0, 0, [], Nat.zero_le _, Nat.zero_le _, rfl, rfl, Nat.zero_le _, by simp [Hid, piecesL], World.ownsRow_nil _ _ _ _, Below.refl _ _⟩
  case round =>
    obtain ⟨k, f, acc, hk, hf, rfl, rfl, hacc, H, hown, hb⟩ := hrel
    by_cases hlt : k < s.size
    · obtain ⟨S1, S2⟩ := splitAux_step s f k hlt hf
      by_cases hc : s[k] = 47
      · have d1 : ((s[k].toNat : Int) == 47) = true := by simp [hc]
        have HN := Lib.hid (S1 hc)
        clear hc S1 S2
        go_wp2_with (at_builtin; refine append_one el_string w.heap.size _ _ _ (hown.alloc _) wr.heap.size (.string (s.extract f k)) (.tmp 16) (.tmp 21) rfl rfl rfl rfl ?c1 rfl (by omega) ?c2 ?_)
        case c1 => rw [cell_alloc_new rfl]; rfl
        case c2 => have := hb.size; simp; omega
        intro v' w1 hown1 hgr1 hv1
        go_wp2
        go_roundw
        case rel =>
          refine ⟨k + 1, k + 1, acc ++ [s.extract f k], by omega, by omega, by go_num, by go_num, by simp; omega, ?_, by simpa using hown1, (hb.alloc hb.size _).grown hgr1 (by have := hb.size; simp; omega) ?_⟩
          · unfold Hid; rw [H.out, HN.out]; simp
          · exact own_block_ge hown
        case measure => simp [intOf]; omega
      · have d1 := toNat_ne47 hc
        have HN := Lib.hid (S2 hc)
        clear hc S1 S2
        go_wp2
        go_roundw
        case rel => exact ⟨k + 1, f, acc, by omega, by omega, by go_num, rfl, by omega, by unfold Hid; rw [H.out, HN.out], hown, hb⟩
        case measure => simp [intOf]; omega
    · have : k = s.size := by omega
      subst this
      have HN := Lib.hid (H.out.trans (show _ = (acc ++ [s.extract f s.size]).map (·.toList) by
        have hd : s.toList.drop s.size = [] := List.drop_of_length_le (by rw [len_toList]; exact Nat.le_refl _)
        rw [hd]
        simp [splitAux, toList_extract]))
      go_wp2_with (at_builtin; refine append_one el_string w.heap.size _ _ _ (hown.alloc _) wr.heap.size (.string (s.extract f s.size)) (.tmp 25) (.tmp 29) rfl rfl rfl rfl ?d1 rfl (by omega) ?d2 ?_)
      case d1 => rw [cell_alloc_new rfl]; rfl
      case d2 => have := hb.size; simp; omega
      intro v' w1 hown1 hgr1 hv1
      go_wp2
      go_ret
      refine ⟨v', acc ++ [s.extract f s.size], rfl, HN.out.symm, CellsAt.of_owns (base := w.heap.size) (e := 9) (by simpa using hown1), ?_⟩
      exact (hb.alloc hb.size _).grown hgr1 (by have := hb.size; simp; omega) (own_block_ge hown)

theorem map_toList_inj : ∀ {l m : List ByteArray}, l.map (·.toList) = m.map (·.toList) → l = m
  | [], [], _ => rfl
  | [], _ :: _, h => by simp at h
  | _ :: _, [], h => by simp at h
  | a :: l, b :: m, h => by
    simp only [List.map_cons, List.cons.injEq] at h
    rw [ba_ext h.1, map_toList_inj h.2]

theorem pieces_of (s : ByteArray) (w : World) (hs : s.size < 4294967281) :
    Calls Tryz.prog 167 #[.string s] w fun e w' => ∃ v, e = .returned v ∧ CellsAt w' v ((piecesOf s).map Value.string) ∧ Ext w w' :=
  (pieces_any s w hs).mono fun e w' ⟨v, l, he, hl, hc, hx⟩ => ⟨v, he, by rw [← map_toList_inj (hl.trans (piecesOf_toList s).symm)]; exact hc, hx⟩

def bsL (l : List UInt8) : ByteArray := ⟨l.toArray⟩
theorem bsL_toList (l : List UInt8) : (bsL l).toList = l := toList_mk l
theorem eq_bsL (s : ByteArray) : s = bsL s.toList := ba_ext (bsL_toList _).symm

theorem pieces_last {s : ByteArray} {l : List ByteArray} (h : l.map (·.toList) = piecesL s.toList) : l ≠ [] ∧ ∀ x, l[l.length - 1]? = some x → x = baseS s := by
  have hne : l ≠ [] := by
    intro e; subst e; exact splitAux_ne _ _ h.symm
  refine ⟨hne, fun x hx => ba_ext ?_⟩
  rw [(split_toList s).2]
  unfold baseL
  rw [List.getLast_eq_getElem]
  have hl : (piecesL s.toList).length = l.length := by rw [← h, List.length_map]
  have : (piecesL s.toList)[(piecesL s.toList).length - 1]? = some x.toList := by
    rw [hl, ← h, List.getElem?_map, hx]; rfl
  exact ((List.getElem?_eq_some_iff.1 this).2).symm

set_option maxHeartbeats 800000 in
theorem last_any (s : ByteArray) (w : World) (hs : s.size < 4294967281) :
    Calls Tryz.prog 169 #[.string s] w fun e w' => e = .returned (.string (baseS s)) ∧ Ext w w' := by
  go_enter Tryz.func169, Tryz.ntmps169
  go_wp2_with fail
  refine (pieces_any s w hs).mono ?_
  rintro e w1 ⟨v, l, rfl, hl, hc, x1⟩
  obtain ⟨hne, hlast⟩ := pieces_last hl
  have hll : l.length ≠ 0 := fun e => hne (List.length_eq_zero_iff.1 e)
  rcases hc with ⟨_, h0⟩ | ⟨g, cap, rfl, hg, hcap, hm, hcells⟩
  · exact absurd (by simpa using h0) hne
  · obtain ⟨x, hx⟩ : ∃ x, l[l.length - 1]? = some x := ⟨_, List.getElem?_eq_getElem (by omega)⟩
    have hcx := hcells (l.length - 1) (.string x) (by rw [List.getElem?_map, hx]; rfl)
    have HE := Lib.hid (hlast x hx)
    have hl2 : (List.map Value.string l).length = l.length := List.length_map ..
    simp only [hl2] at hcap
    rw [hl2]
    unfold maxLen at hm
    clear hlast hl hcells hne hx hl2
    generalize l.length = n at *
    have HX := Lib.hid x1
    clear x1
    go_wp2
    go_ret
    exact ⟨ret_str HE.out, HX.out⟩

def aheadS (s : ByteArray) : ByteArray := bsL (aheadL s.toList)
theorem aheadS_eq (s : ByteArray) : aheadS s = parentS s := ba_ext (by rw [aheadS, bsL_toList, (split_toList s).1])

theorem base_lt (s : ByteArray) : (baseS s).size ≤ s.size := by unfold baseS; simp

set_option maxHeartbeats 800000 in
theorem ahead_any (s : ByteArray) (w : World) (hs : s.size < 4294967281) :
    Calls Tryz.prog 104 #[.string s] w fun e w' => e = .returned (.string (parentS s)) ∧ Ext w w' := by
  have hb := base_lt s
  have HA := Lib.hid (show (aheadS s) = parentS s from aheadS_eq s)
  have hbl : (baseS s).size = (baseL s.toList).length := by rw [← len_toList, (split_toList s).2]
  have HL := Lib.hid (last_any s w hs)
  have e1 : (s.size : Int) - (baseS s).size - 1 < 0 → aheadS s = ⟨#[]⟩ := fun h => ba_ext (by rw [aheadS, bsL_toList, aheadL, len_toList, ← hbl]; simp; left; omega)
  have e2 : 0 ≤ (s.size : Int) - (baseS s).size - 1 → aheadS s = s.extract 0 (s.size - (baseS s).size - 1) := fun h => ba_ext (by
    rw [aheadS, bsL_toList, aheadL, toList_extract, len_toList, ← hbl]; simp only [List.drop_zero]; congr 1)
  have HE1 := Lib.hid e1
  have HE2 := Lib.hid e2
  clear e1 e2 hbl
  generalize baseS s = b at *
  by_cases h : (s.size : Int) - b.size - 1 < 0
  · have HF := Lib.hid (HA.out.symm.trans (HE1.out h))
    clear HE1 HE2
    go_enter Tryz.func104, Tryz.ntmps104
    go_wp2_with fail
    refine HL.out.mono ?_
    rintro e w1 ⟨rfl, x1⟩
    go_wp2
    go_ret
    exact ⟨ret_str HF.out.symm, x1⟩
  · have HF := Lib.hid (HA.out.symm.trans (HE2.out (by omega)))
    clear HE1 HE2
    go_enter Tryz.func104, Tryz.ntmps104
    go_wp2_with fail
    refine HL.out.mono ?_
    rintro e w1 ⟨rfl, x1⟩
    go_wp2
    go_ret
    exact ⟨ret_str HF.out.symm, x1⟩
end Go.Proofs.YtldppmjjgljinaaGreatDoor

namespace Go.Proofs.YtldppmjjgljinaaGreatDoor
open Go.RowKit

set_option maxHeartbeats 400000 in
theorem refName_any (s : ByteArray) (w : World) (hs : s.size ≤ maxLen) :
    Calls Tryz.prog 168 #[.string s] w fun e w' => e = .returned (.bool (nameB s.toList)) ∧ w' = w := by
  unfold maxLen at hs
  by_cases h1 : 1 ≤ s.size ∧ s.size ≤ 48
  · obtain ⟨h1, h2⟩ := h1
    cases h3 : s.toList == [46]
    · cases h4 : s.toList == [46, 46]
      · go_enter Tryz.func168, Tryz.ntmps168
        go_wp2
        go_loop [3] (fun i => ∃ k : Nat, k ≤ s.size ∧ i = .int .i64 k ∧ (s.toList.take k).all okByte = true) (fun i => s.size - (intOf i).toNat)
        case atStart => exact ⟨0, Nat.zero_le _, rfl, rfl⟩
        case round =>
          obtain ⟨k, hk, rfl, hall⟩ := hrel
          have H := Lib.hid hall
          clear hall
          by_cases hlt : k < s.size
          · have HB := Lib.hid (nameB_bad s k hlt)
            have HT := Lib.hid (take_snoc s k hlt)
            cases hb : okByte s[k]
            · have hb' := hb
              have H2 := Lib.hid hb
              clear hb
              simp only [okByte, Bool.not_eq_false', Bool.or_eq_true, decide_eq_true_eq, beq_iff_eq] at hb'
              go_wp2
              all_goals (first | (go_ret; exact ⟨ret_bool (HB.out H2.out).symm, rfl⟩) | (exfalso; simp at *; omega))
            · have hb' := hb
              have H2 := Lib.hid hb
              clear hb
              simp only [okByte, Bool.not_eq_true', Bool.or_eq_false_iff, decide_eq_false_iff_not] at hb'
              obtain ⟨⟨b1, b2⟩, b3⟩ := hb'
              go_wp2
              go_round
              case rel => exact ⟨k + 1, by omega, by go_num, by rw [HT.out, List.all_append, H.out]; simp [H2.out]⟩
              case measure => simp [intOf]; omega
          · have : k = s.size := by omega
            subst this
            go_wp2
            go_ret
            exact ⟨ret_bool (nameB_good s h1 h2 h3 h4 (by have := H.out; rwa [List.take_of_length_le (by rw [len_toList]; omega)] at this)).symm, rfl⟩
      · go_enter Tryz.func168, Tryz.ntmps168
        go_wp2
        go_ret
        exact ⟨ret_bool (by simp [nameB, h4]), rfl⟩
    · go_enter Tryz.func168, Tryz.ntmps168
      go_wp2
      go_ret
      exact ⟨ret_bool (by simp [nameB, h3]), rfl⟩
  · have hf : nameB s.toList = false := by
      simp only [nameB, len_toList]
      by_cases h : 1 ≤ s.size
      · have : ¬ s.size ≤ 48 := by omega
        simp [this]
      · simp [h]
    have HF := Lib.hid hf
    clear hf
    go_enter Tryz.func168, Tryz.ntmps168
    go_wp2
    all_goals (first | (go_ret; exact ⟨ret_bool HF.out.symm, rfl⟩) | (exfalso; simp at *; omega))

set_option maxHeartbeats 1600000 in
theorem refMay_any (s : ByteArray) (w : World) (hs : s.size < 4294967281) :
    Calls Tryz.prog 103 #[.string s] w fun e w' => e = .returned (.bool (mayB s)) ∧ Ext w w' := by
  have hpar := parentS_le s
  have HPC := Lib.hid (pieces_of s w hs)
  have HAH := fun w => Lib.hid (ahead_any s w hs)
  have hsz := piecesOf_sizes s
  have hln := piecesOf_len s
  have hlb := countB_le s
  have hfin : mayB s = (decide (s.size ≤ 160) && decide ((parentS s).size ≤ 111) && (decide ((piecesOf s).length ≤ 6) && (piecesOf s).all (fun x => nameB x.toList))) := rfl
  have HF := Lib.hid hfin
  clear hfin
  generalize parentS s = P at *
  have hne : (piecesOf s).length ≠ 0 := by omega
  have hl6 : (piecesOf s).length ≤ 4294967281 := by omega
  generalize piecesOf s = l at *
  clear hln hlb
  go_enter Tryz.func103, Tryz.ntmps103
  go_wp2_with fail
  refine HPC.out.mono ?_
  rintro e w1 ⟨v, rfl, hc, x1⟩
  rcases hc with ⟨_, h0⟩ | ⟨g, cap, rfl, hg, hcap, hm, hcells⟩
  · exact absurd (by simpa using congrArg List.length h0) hne
  · have hl2 : (List.map Value.string l).length = l.length := List.length_map ..
    rw [hl2] at hcap ⊢
    unfold maxLen at hm
    have HX := Lib.hid x1
    have HC := Lib.hid hcells
    clear x1 hcells hl2
    by_cases h1 : s.size ≤ 160
    · by_cases h2 : P.size ≤ 111
      · by_cases h3 : l.length ≤ 6
        · have HF2 := Lib.hid (show mayB s = l.all (fun x => nameB x.toList) by rw [HF.out]; simp [h1, h2, h3])
          go_wp2_with fail
          refine (HAH _).out.mono ?_
          rintro e w2 ⟨rfl, x2⟩
          go_wp2_with fail
          have X := HX.out.trans x2
          go_loopw [4] (fun i wr => ∃ k : Nat, k ≤ l.length ∧ i = .int .i64 k ∧ Hid ((l.take k).all (fun x => nameB x.toList) = true) ∧ Ext w1 wr) (fun i _ => l.length - (intOf i).toNat)
          case atStart => exact ⟨0, Nat.zero_le _, rfl, rfl, x2⟩
          case round =>
            obtain ⟨k, hk, rfl, H, xr⟩ := hrel
            by_cases hlt : k < l.length
            · obtain ⟨x, hx⟩ : ∃ x, l[k]? = some x := ⟨_, List.getElem?_eq_getElem hlt⟩
              have hcx : wr.cell? ⟨g, k, none⟩ = some (.string x) := (xr.cell hg).trans (HC.out k _ (by rw [List.getElem?_map, hx]; rfl))
              have hxs := hsz x (List.mem_of_getElem? hx)
              have HN := Lib.hid (refName_any x wr (by unfold maxLen; omega))
              have HX2 := Lib.hid hx
              clear hx
              cases hn : nameB x.toList
              · rw [hn] at HN
                have HF3 := Lib.hid (show mayB s = false by
                  rw [HF2.out, List.all_eq_false]; exact ⟨x, List.mem_of_getElem? HX2.out, by simp [hn]⟩)
                clear hn
                go_wp2_with fail
                refine HN.out.mono ?_
                rintro e w3 ⟨rfl, rfl⟩
                go_wp2_with fail
                go_ret
                exact ⟨ret_bool HF3.out.symm, HX.out.trans xr⟩
              · rw [hn] at HN
                have HK := Lib.hid hn
                clear hn
                go_wp2_with fail
                refine HN.out.mono ?_
                rintro e w3 ⟨rfl, rfl⟩
                go_wp2_with fail
                go_roundw
                case rel => exact ⟨k + 1, by omega, by go_num, by unfold Hid; rw [List.take_add_one, HX2.out, List.all_append, H.out]; simp [HK.out], xr⟩
                case measure => simp [intOf]; omega
            · have : k = l.length := by omega
              subst this
              go_wp2_with fail
              go_ret
              exact ⟨ret_bool (by rw [HF2.out]; have := H.out; rw [List.take_length] at this; exact this.symm), HX.out.trans xr⟩
        · have HF2 := Lib.hid (show mayB s = false by rw [HF.out]; simp [h3])
          go_wp2_with fail
          refine (HAH _).out.mono ?_
          rintro e w2 ⟨rfl, x2⟩
          go_wp2_with fail
          go_ret
          exact ⟨ret_bool HF2.out.symm, HX.out.trans x2⟩
      · have HF2 := Lib.hid (show mayB s = false by rw [HF.out]; simp [h2])
        go_wp2_with fail
        refine (HAH _).out.mono ?_
        rintro e w2 ⟨rfl, x2⟩
        go_wp2_with fail
        go_ret
        exact ⟨ret_bool HF2.out.symm, HX.out.trans x2⟩
    · have HF2 := Lib.hid (show mayB s = false by rw [HF.out]; simp [h1])
      go_wp2_with fail
      go_ret
      exact ⟨ret_bool HF2.out.symm, HX.out⟩
end Go.Proofs.YtldppmjjgljinaaGreatDoor
