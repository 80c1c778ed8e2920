/- Contracts of caravan/caravanref02: Parts, Join, Same. -/
import Derived.Test.YtgojagdjlebnnaaDoorPathI
namespace Go.Proofs.YtgojagdjlebnnaaDoor
open Go.RowKit

set_option maxHeartbeats 400000 in
theorem refParts_any (s : ByteArray) (w : World) (hs : s.size < 4294967281) :
    Calls Tryd.prog 32 #[.string s] w fun e w' => ∃ v, e = .returned v ∧ CellsAt w' v ((partsOf s).map Value.string) ∧ Ext w w' := by
  have HM := Lib.hid (refMay_any s w hs)
  have HS := fun w => Lib.hid (pieces_of s w hs)
  have HP := Lib.hid (show partsOf s = if mayB s then piecesOf s else [] from rfl)
  generalize piecesOf s = l at *
  cases h : mayB s
  · rw [h] at HM HP
    clear h
    go_enter Tryd.func32, Tryd.ntmps32
    go_wp2_with fail
    refine HM.out.mono ?_
    rintro e wr1 ⟨rfl, xr1⟩
    have Xr1 := xr1
    have XE := Xr1
    go_wp2_with fail
    go_ret
    exact ⟨_, rfl, .inl ⟨rfl, by rw [HP.out]; rfl⟩, XE⟩
  · rw [h] at HM HP
    clear h
    go_enter Tryd.func32, Tryd.ntmps32
    go_wp2_with fail
    refine HM.out.mono ?_
    rintro e wr1 ⟨rfl, xr1⟩
    have Xr1 := xr1
    have XE := Xr1
    go_wp2_with fail
    refine (HS _).out.mono ?_
    rintro e w2 ⟨v, rfl, hc, x2⟩
    go_wp2_with fail
    go_ret
    exact ⟨v, rfl, by rw [HP.out]; exact hc, XE.trans x2⟩

/-- The shape of a slice value that reads as a list of texts. -/
theorem CellsAt.view {w : World} {v : Value} {l : List ByteArray} (h : CellsAt w v (l.map Value.string)) :
    ∃ (a : Option Addr) (cap : Nat), v = .slice a l.length cap ∧ l.length ≤ cap ∧ cap ≤ maxLen ∧ ∀ (j : Nat) x, l[j]? = some x → ∃ g, a = some ⟨g, 0, none⟩ ∧ w.cell? ⟨g, j, none⟩ = some (.string x) := by
  rcases h with ⟨rfl, h0⟩ | ⟨g, cap, rfl, hg, hc, hm, hcells⟩
  · have : l = [] := by simpa using h0
    subst this
    exact ⟨none, 0, rfl, Nat.le_refl _, by unfold maxLen; omega, fun j x hx => by simp at hx⟩
  · rw [List.length_map] at *
    exact ⟨some ⟨g, 0, none⟩, cap, rfl, hc, hm, fun j x hx => ⟨g, rfl, hcells j _ (by rw [List.getElem?_map, hx]; rfl)⟩⟩

def sameB (l m : List ByteArray) : Bool := l.map (·.toList) == m.map (·.toList)

theorem sameB_len {l m : List ByteArray} (h : l.length ≠ m.length) : sameB l m = false := by
  unfold sameB
  rw [beq_eq_false_iff_ne]
  intro e
  have := congrArg List.length e
  simp at this
  exact h this
theorem sameB_diff {l m : List ByteArray} {k : Nat} {x y : ByteArray} (hx : l[k]? = some x) (hy : m[k]? = some y) (h : (x.toList == y.toList) = false) : sameB l m = false := by
  unfold sameB
  rw [beq_eq_false_iff_ne] at h ⊢
  intro e
  apply h
  have := congrArg (·[k]?) e
  simpa [hx, hy] using this

set_option maxHeartbeats 1600000 in
theorem same_any (v u : Value) (l m : List ByteArray) (w : World) (hv : CellsAt w v (l.map Value.string)) (hu : CellsAt w u (m.map Value.string)) :
    Calls Tryd.prog 30 #[v, u] w fun e w' => e = .returned (.bool (sameB l m)) ∧ Ext w w' := by
  obtain ⟨a, c, rfl, c1, c2, hA⟩ := hv.view
  obtain ⟨b, d, rfl, d1, d2, hB⟩ := hu.view
  unfold maxLen at c2 d2
  have HA := Lib.hid hA
  have HB := Lib.hid hB
  clear hA hB hv hu
  by_cases hl : l.length = m.length
  · have HS := Lib.hid (show ∀ k, k = l.length → (l.take k).map (·.toList) = (m.take k).map (·.toList) → sameB l m = true from fun k hk h => by
      subst hk; rw [List.take_length, hl, List.take_length] at h; unfold sameB; rw [h]; simp)
    have n1 : ((l.length : Int) != m.length) = false := by simp [hl]
    have HLM := Lib.hid hl
    have hle : l.length ≤ m.length := by omega
    clear hl
    go_enter Tryd.func30, Tryd.ntmps30
    go_wp2_with fail
    go_loopw [5] (fun i wr => ∃ k : Nat, k ≤ l.length ∧ i = .int .i64 k ∧ Hid ((l.take k).map (·.toList) = (m.take k).map (·.toList)) ∧ Hid (∃ n, wr = w.drewN n)) (fun i _ => l.length - (intOf i).toNat)
    case atStart => exact ⟨0, Nat.zero_le _, rfl, rfl, ⟨0, rfl⟩⟩
    case round =>
      obtain ⟨k, hk, rfl, H, Hn⟩ := hrel
      obtain ⟨n, rfl⟩ := Hn.out
      clear Hn
      by_cases hlt : k < l.length
      · obtain ⟨x, hx⟩ : ∃ x, l[k]? = some x := ⟨_, List.getElem?_eq_getElem hlt⟩
        obtain ⟨y, hy⟩ : ∃ y, m[k]? = some y := ⟨_, List.getElem?_eq_getElem (by omega)⟩
        obtain ⟨g, rfl, hcx⟩ := HA.out k x hx
        obtain ⟨g', rfl, hcy⟩ := HB.out k y hy
        have HX := Lib.hid hx
        have HY := Lib.hid hy
        clear hx hy
        have hkm : k < m.length := by omega
        cases hq : x.toList == y.toList
        · have HF := Lib.hid (sameB_diff HX.out HY.out hq)
          have hq2 : (x.toList != y.toList) = true := by simp [bne, hq]
          go_wp2_with fail
          go_quiet (fail)
          go_wp2_with fail
          go_ret
          exact ⟨ret_bool HF.out.symm, ((Ext.refl w).drewN _).drewN _⟩
        · have HE := Lib.hid (beq_iff_eq.1 hq)
          have hq2 : (x.toList != y.toList) = false := by simp [bne, hq]
          go_wp2_with fail
          go_quiet (fail)
          go_wp2_with fail
          go_roundw
          case rel => exact ⟨k + 1, by omega, by go_num, by unfold Hid; rw [List.take_add_one, List.take_add_one, HX.out, HY.out, List.map_append, List.map_append, H.out]; simp [HE.out], ⟨_, rfl⟩⟩
          case measure => simp [intOf]; omega
      · have : k = l.length := by omega
        have HF := Lib.hid (HS.out k this H.out)
        subst this
        clear H HS
        go_wp2_with fail
        go_ret
        exact ⟨ret_bool HF.out.symm, (Ext.refl w).drewN n⟩
  · have HF := Lib.hid (sameB_len hl)
    have n1 : ((l.length : Int) != m.length) = true := by simp; omega
    clear hl
    go_enter Tryd.func30, Tryd.ntmps30
    go_wp2_with fail
    go_ret
    exact ⟨ret_bool HF.out.symm, Ext.refl _⟩

theorem join_snoc : ∀ (l : List (List UInt8)) (x : List UInt8), Lib.join (l ++ [x]) [47] = (if l = [] then [] else Lib.join l [47] ++ [47]) ++ x
  | [], x => by simp [Lib.join_one]
  | y :: r, x => by
    rw [List.cons_append, Lib.join_cons, Lib.join_cons, if_neg (by simp)]
    simp [Lib.joinTail]
theorem joinS_step {l : List ByteArray} {k : Nat} {x : ByteArray} (hx : l[k]? = some x) :
    joinS (l.take (k + 1)) = if k = 0 then ⟨#[]⟩ ++ x else joinS (l.take k) ++ ⟨#[47]⟩ ++ x := by
  apply ba_ext
  have hk : k < l.length := (List.getElem?_eq_some_iff.1 hx).1
  unfold joinS
  rw [bsL_toList, List.take_add_one, hx, List.map_append, Option.toList_some, List.map_cons, List.map_nil, join_snoc]
  by_cases h0 : k = 0
  · subst h0; simp [toList_append]
  · rw [if_neg h0, if_neg (by
      intro e
      have := congrArg List.length e
      simp only [List.length_map, List.length_take, List.length_nil] at this
      omega)]
    simp [toList_append, bsL_toList, show (⟨#[47]⟩ : ByteArray).toList = [47] from toList_mk [47]]
theorem joinS_le {l : List ByteArray} (k : Nat) (h6 : l.length ≤ 6) (h : (l.take k).all (fun x => nameB x.toList) = true) : (joinS (l.take k)).size ≤ 400 := by
  by_cases h0 : 1 ≤ (l.take k).length
  · rw [← len_toList, joinS, bsL_toList]
    refine join_len _ ?_
    unfold namesB
    rw [h]
    have : (l.take k).length ≤ l.length := by rw [List.length_take]; omega
    simp only [Bool.and_true, Bool.and_eq_true, decide_eq_true_eq]
    omega
  · have : l.take k = [] := List.length_eq_zero_iff.1 (by omega)
    rw [this]; decide

set_option maxRecDepth 100000 in
set_option maxHeartbeats 3200000 in
theorem refJoin_any (v : Value) (l : List ByteArray) (w : World) (hc : CellsAt w v (l.map Value.string)) (hz : ∀ x ∈ l, x.size ≤ 4294967295) :
    Calls Tryd.prog 26 #[v] w fun e w' => e = .returned (.tuple #[.string (joinR l), .bool (joinOk l)]) ∧ Ext w w' := by
  obtain ⟨a, c, rfl, c1, c2, hA⟩ := hc.view
  unfold maxLen at c2
  have HA := Lib.hid hA
  clear hA hc
  have HR := Lib.hid (show joinR l = if joinOk l then joinS l else ⟨#[]⟩ from rfl)
  have HO := Lib.hid (show joinOk l = (namesB l && mayB (joinS l)) from rfl)
  have HNB := Lib.hid (show namesB l = (decide (1 ≤ l.length) && decide (l.length ≤ 6) && l.all (fun x => nameB x.toList)) from rfl)
  by_cases h1 : 1 ≤ l.length
  · by_cases h6 : l.length ≤ 6
    · go_enter Tryd.func26, Tryd.ntmps26
      go_wp2_with fail
      go_loop [4, 5] (fun p i => ∃ k : Nat, k ≤ l.length ∧ i = .int .i64 k ∧ p = .string (joinS (l.take k)) ∧ Hid ((l.take k).all (fun x => nameB x.toList) = true)) (fun _ i => l.length - (intOf i).toNat)
      case atStart => exact ⟨0, Nat.zero_le _, rfl, rfl, rfl⟩
      case round =>
        obtain ⟨k, hk, rfl, rfl, H⟩ := hrel
        have hjl := joinS_le k h6 H.out
        by_cases hlt : k < l.length
        · obtain ⟨x, hx⟩ : ∃ x, l[k]? = some x := ⟨_, List.getElem?_eq_getElem hlt⟩
          have HJ := Lib.hid (joinS_step hx)
          generalize hJe : joinS (l.take k) = J at *
          have HJE := Lib.hid hJe
          clear hJe
          obtain ⟨g, rfl, hcx⟩ := HA.out k x hx
          have hxs := hz x (List.mem_of_getElem? hx)
          have HN := Lib.hid (refName_any x w (by unfold maxLen; omega))
          have HX2 := Lib.hid hx
          clear hx
          cases hn : nameB x.toList
          · rw [hn] at HN
            have HF3 := Lib.hid (show joinOk l = false by
              rw [HO.out, HNB.out]
              have : l.all (fun x => nameB x.toList) = false := by
                rw [List.all_eq_false]; exact ⟨x, List.mem_of_getElem? HX2.out, by simp [hn]⟩
              rw [this]; simp)
            clear hn
            go_wp2_with fail
            refine HN.out.mono ?_
            rintro e wr1 ⟨rfl, hwr⟩
            obtain rfl := hwr.symm
            go_wp2_with fail
            go_ret2
            exact ⟨ret_str2 (by rw [HR.out, HF3.out]; rfl) HF3.out.symm, Ext.refl _⟩
          · rw [hn] at HN
            have HK := Lib.hid hn
            clear hn
            have HT : Hid ((l.take (k + 1)).all (fun x => nameB x.toList) = true) := by
              unfold Hid; rw [List.take_add_one, HX2.out, List.all_append, H.out]; simp [HK.out]
            by_cases hk0 : k = 0
            · subst hk0
              have HJ2 := Lib.hid (HJ.out.trans (by rw [if_pos rfl]))
              clear HJ H
              go_wp2_with fail
              refine HN.out.mono ?_
              rintro e wr1 ⟨rfl, hwr⟩
              obtain rfl := hwr.symm
              go_wp2_with fail
              go_round
              case rel => exact ⟨1, by omega, by go_num, by rw [HJ2.out, show J = ⟨#[]⟩ from HJE.out.symm.trans rfl], HT⟩
              case measure => simp [intOf]; omega
            · have HJ2 := Lib.hid (HJ.out.trans (by rw [if_neg hk0]))
              have hk1 : 0 < k := by omega
              clear HJ H hk0
              go_wp2_with fail
              refine HN.out.mono ?_
              rintro e wr1 ⟨rfl, hwr⟩
              obtain rfl := hwr.symm
              go_wp2_with fail
              go_round
              case rel => exact ⟨k + 1, by omega, by go_num, by rw [HJ2.out], HT⟩
              case measure => simp [intOf]; omega
        · have : k = l.length := by omega
          subst this
          have hall : namesB l = true := by
            rw [HNB.out]; have := H.out; rw [List.take_length] at this; rw [this]; simp [h1, h6]
          rw [List.take_length] at *
          have HM := fun w => Lib.hid (refMay_any (joinS l) w (by omega))
          have HO2 := Lib.hid (HO.out.trans (by rw [hall, Bool.true_and]))
          clear hall H
          generalize joinS l = J at *
          cases hmj : mayB J
          · rw [hmj] at HM
            have HO3 := Lib.hid (HO2.out.trans hmj)
            clear hmj
            go_wp2_with fail
            refine (HM _).out.mono ?_
            rintro e wr1 ⟨rfl, xr1⟩
            have Xr1 := xr1
            have XE := Xr1
            go_wp2_with fail
            go_ret2
            exact ⟨ret_str2 (by rw [HR.out, HO3.out]; rfl) HO3.out.symm, XE⟩
          · rw [hmj] at HM
            have HO3 := Lib.hid (HO2.out.trans hmj)
            clear hmj
            go_wp2_with fail
            refine (HM _).out.mono ?_
            rintro e wr1 ⟨rfl, xr1⟩
            have Xr1 := xr1
            have XE := Xr1
            go_wp2_with fail
            go_ret2
            exact ⟨ret_str2 (by rw [HR.out, HO3.out]; rfl) HO3.out.symm, XE⟩
    · have HF := Lib.hid (show joinOk l = false by rw [HO.out, HNB.out]; simp [h6])
      go_enter Tryd.func26, Tryd.ntmps26
      go_wp2_with fail
      go_ret2
      exact ⟨ret_str2 (by rw [HR.out, HF.out]; rfl) HF.out.symm, Ext.refl _⟩
  · have HF := Lib.hid (show joinOk l = false by rw [HO.out, HNB.out]; simp [h1])
    go_enter Tryd.func26, Tryd.ntmps26
    go_wp2_with fail
    go_ret2
    exact ⟨ret_str2 (by rw [HR.out, HF.out]; rfl) HF.out.symm, Ext.refl _⟩
end Go.Proofs.YtgojagdjlebnnaaDoor
