/- Contracts of caravan/path: Parts, Join. -/
import Derived.Test.YtgojagdjlebnnaaDoorPathH
namespace Go.Proofs.YtgojagdjlebnnaaDoor
open Go.RowKit

def partsOf (s : ByteArray) : List ByteArray := if mayB s then piecesOf s else []

set_option maxHeartbeats 400000 in
theorem parts_any (s : ByteArray) (w : World) (hs : s.size < 4294967281) (E : Env w) :
    Calls Tryd.prog 31 #[.string s] w fun e w' => ∃ v, e = .returned v ∧ CellsAt w' v ((partsOf s).map Value.string) ∧ Ext w w' := by
  have HM := Lib.hid (may_any s w hs E)
  have HS := fun w E => Lib.hid (splitSlash s w hs E)
  have hne : (piecesOf s).length ≠ 0 := by have := piecesOf_len s; omega
  have hlb := countB_le s
  have hln := piecesOf_len s
  have HP := Lib.hid (show partsOf s = if mayB s then piecesOf s else [] from rfl)
  generalize piecesOf s = l at *
  have hb6 : l.length ≤ 4294967282 := by omega
  clear hln hlb
  cases h : mayB s
  · rw [h] at HM HP
    clear h
    go_enter Tryd.func31, Tryd.ntmps31
    go_wp2_with fail
    refine HM.out.mono ?_
    rintro e wr1 ⟨rfl, xr1⟩
    have Xr1 := xr1
    have XE := Xr1
    go_wp2_with fail
    go_ret
    exact ⟨_, rfl, .inl ⟨rfl, by rw [HP.out]; rfl⟩, XE⟩
  · rw [h] at HM HP
    clear h
    go_enter Tryd.func31, Tryd.ntmps31
    go_wp2_with fail
    refine HM.out.mono ?_
    rintro e wr1 ⟨rfl, xr1⟩
    have Xr1 := xr1
    have XE := Xr1
    go_wp2_with fail
    refine (HS _ (E.ext XE)).out.mono ?_
    rintro e w2 ⟨rfl, rfl⟩
    go_wp2_with fail
    go_ret
    refine ⟨_, rfl, .inr ⟨wr1.heap.size, l.length, by rw [HP.out]; simp, by simp, by rw [HP.out]; simp, by unfold maxLen; omega, fun j u hj => ?_⟩, XE.alloc _⟩
    · rw [cell_alloc_new rfl]
      rw [HP.out] at hj
      simpa using hj

/-- the parts, with slashes between -/
def joinS (l : List ByteArray) : ByteArray := bsL (Lib.join (l.map (·.toList)) [47])
def namesB (l : List ByteArray) : Bool := decide (1 ≤ l.length) && decide (l.length ≤ 6) && l.all (fun x => nameB x.toList)
def joinOk (l : List ByteArray) : Bool := namesB l && mayB (joinS l)
def joinR (l : List ByteArray) : ByteArray := if joinOk l then joinS l else ⟨#[]⟩

theorem nameB_len {l : List UInt8} (h : nameB l = true) : l.length ≤ 48 := by
  unfold nameB at h
  simp only [Bool.and_eq_true, decide_eq_true_eq] at h
  exact h.1.1.1.2

theorem joinTail_len : ∀ (r : List (List UInt8)), (∀ x ∈ r, x.length ≤ 48) → (Lib.joinTail [47] r).length ≤ 49 * r.length
  | [], _ => by simp [Lib.joinTail]
  | x :: r, h => by
    have h1 := joinTail_len r (fun y hy => h y (by simp [hy]))
    have h2 := h x (by simp)
    have : Lib.joinTail [47] (x :: r) = ([47] ++ x) ++ Lib.joinTail [47] r := by simp [Lib.joinTail]
    rw [this]; simp only [List.length_append, List.length_cons, List.length_nil]; omega
theorem join_len (l : List ByteArray) (h : namesB l = true) : (Lib.join (l.map (·.toList)) [47]).length ≤ 400 := by
  unfold namesB at h
  simp only [Bool.and_eq_true, decide_eq_true_eq, List.all_eq_true] at h
  obtain ⟨⟨_, h6⟩, hn⟩ := h
  match l, h6, hn with
  | [], _, _ => simp [Lib.join]
  | x :: r, h6, hn =>
    rw [List.map_cons, Lib.join_cons]
    have h1 := joinTail_len (r.map (·.toList)) (by
      intro y hy
      obtain ⟨z, hz, rfl⟩ := List.mem_map.1 hy
      exact nameB_len (hn z (by simp [hz])))
    have h2 := nameB_len (hn x (by simp))
    simp only [List.length_append, List.length_map, List.length_cons] at *
    omega

set_option maxRecDepth 100000 in
set_option maxHeartbeats 1600000 in
theorem join_any (v : Value) (l : List ByteArray) (w : World) (hc : CellsAt w v (l.map Value.string)) (hz : ∀ x ∈ l, x.size ≤ 4294967295) (E : Env w) :
    Calls Tryd.prog 25 #[v] w fun e w' => e = .returned (.tuple #[.string (joinR l), .bool (joinOk l)]) ∧ Ext w w' := by
  rcases hc with ⟨rfl, h0⟩ | ⟨g, cap, rfl, hg, hcap, hm, hcells⟩
  · have hl : l = [] := by simpa using h0
    subst hl
    go_enter Tryd.func25, Tryd.ntmps25
    go_wp2_with fail
    go_ret2
    exact ⟨rfl, Ext.refl _⟩
  · rw [List.length_map] at hcap ⊢
    unfold maxLen at hm
    have HC := Lib.hid hcells
    clear hcells
    have HR := Lib.hid (show joinR l = if joinOk l then joinS l else ⟨#[]⟩ from rfl)
    have HO := Lib.hid (show joinOk l = (namesB l && mayB (joinS l)) from rfl)
    have HNB := Lib.hid (show namesB l = (decide (1 ≤ l.length) && decide (l.length ≤ 6) && l.all (fun x => nameB x.toList)) from rfl)
    by_cases h1 : 1 ≤ l.length
    · by_cases h6 : l.length ≤ 6
      · go_enter Tryd.func25, Tryd.ntmps25
        go_wp2_with fail
        go_loop [5, 17] (fun _ i => ∃ k : Nat, k ≤ l.length ∧ i = .int .i64 k ∧ Hid ((l.take k).all (fun x => nameB x.toList) = true)) (fun _ i => l.length - (intOf i).toNat)
        case atStart => exact ⟨0, Nat.zero_le _, rfl, rfl⟩
        case round =>
          obtain ⟨k, hk, rfl, H⟩ := hrel
          by_cases hlt : k < l.length
          · obtain ⟨x, hx⟩ : ∃ x, l[k]? = some x := ⟨_, List.getElem?_eq_getElem hlt⟩
            have hcx : w.cell? ⟨g, k, none⟩ = some (.string x) := HC.out k _ (by rw [List.getElem?_map, hx]; rfl)
            have hxs := hz x (List.mem_of_getElem? hx)
            have HN := Lib.hid (name_any x w (by unfold maxLen; omega))
            have HX2 := Lib.hid hx
            clear hx
            cases hn : nameB x.toList
            · rw [hn] at HN
              have HF3 := Lib.hid (show joinOk l = false by
                rw [HO.out, HNB.out]
                have : l.all (fun x => nameB x.toList) = false := by
                  rw [List.all_eq_false]; exact ⟨x, List.mem_of_getElem? HX2.out, by simp [hn]⟩
                rw [this]; simp)
              clear hn
              go_wp2_with fail
              refine HN.out.mono ?_
              rintro e wr1 ⟨rfl, hwr⟩
              obtain rfl := hwr.symm
              go_wp2_with fail
              go_ret2
              exact ⟨ret_str2 (by rw [HR.out, HF3.out]; rfl) HF3.out.symm, Ext.refl _⟩
            · rw [hn] at HN
              have HK := Lib.hid hn
              clear hn
              go_wp2_with fail
              refine HN.out.mono ?_
              rintro e wr1 ⟨rfl, hwr⟩
              obtain rfl := hwr.symm
              go_wp2_with fail
              go_round
              case rel => exact ⟨k + 1, by omega, by go_num, by unfold Hid; rw [List.take_add_one, HX2.out, List.all_append, H.out]; simp [HK.out]⟩
              case measure => simp [intOf]; omega
          · have : k = l.length := by omega
            subst this
            have hall : namesB l = true := by
              rw [HNB.out]; have := H.out; rw [List.take_length] at this; rw [this]; simp [h1, h6]
            have hjl := join_len l hall
            have e1 : (fun x : ByteArray => x.data.toList) = fun x => x.toList := funext fun x => (Lib.toList_data x).symm
            have HJ := Lib.hid (Tryd.strings_Join g 0 cap l ⟨#[47]⟩ w (fun j x hx => by rw [Nat.zero_add]; exact HC.out j _ (by rw [List.getElem?_map, hx]; rfl)) hg (by omega) hcap (by rw [e1]; show (Lib.join _ [47]).length ≤ _; omega))
            rw [e1] at HJ
            have HJ2 : Hid (Calls Tryd.prog 50 #[.slice (some ⟨g, 0, none⟩) l.length cap, .string ⟨#[47]⟩] w fun e w' => e = .returned (.string (joinS l)) ∧ Ext w w') := HJ
            have hjs : (joinS l).size ≤ 400 := by rw [← len_toList, joinS, bsL_toList]; exact hjl
            clear HJ e1 hjl
            have HM := fun w E => Lib.hid (may_any (joinS l) w (by omega) E)
            have HO2 := Lib.hid (HO.out.trans (by rw [hall, Bool.true_and]))
            clear hall
            generalize joinS l = J at *
            cases hmj : mayB J
            · rw [hmj] at HM
              have HO3 := Lib.hid (HO2.out.trans hmj)
              clear hmj
              go_wp2_with fail
              refine HJ2.out.mono ?_
              rintro e wr1 ⟨rfl, xr1⟩
              have Xr1 := xr1
              go_wp2_with fail
              refine (HM _ (E.ext Xr1)).out.mono ?_
              rintro e wr2 ⟨rfl, xr2⟩
              have Xr2 := Xr1.trans xr2
              have XE := Xr2
              go_wp2_with fail
              go_ret2
              exact ⟨ret_str2 (by rw [HR.out, HO3.out]; rfl) HO3.out.symm, XE⟩
            · rw [hmj] at HM
              have HO3 := Lib.hid (HO2.out.trans hmj)
              clear hmj
              go_wp2_with fail
              refine HJ2.out.mono ?_
              rintro e wr1 ⟨rfl, xr1⟩
              have Xr1 := xr1
              go_wp2_with fail
              refine (HM _ (E.ext Xr1)).out.mono ?_
              rintro e wr2 ⟨rfl, xr2⟩
              have Xr2 := Xr1.trans xr2
              have XE := Xr2
              go_wp2_with fail
              go_ret2
              exact ⟨ret_str2 (by rw [HR.out, HO3.out]; rfl) HO3.out.symm, XE⟩
      · have HF := Lib.hid (show joinOk l = false by rw [HO.out, HNB.out]; simp [h6])
        go_enter Tryd.func25, Tryd.ntmps25
        go_wp2_with fail
        go_ret2
        exact ⟨ret_str2 (by rw [HR.out, HF.out]; rfl) HF.out.symm, Ext.refl _⟩
    · have HF := Lib.hid (show joinOk l = false by rw [HO.out, HNB.out]; simp [h1])
      go_enter Tryd.func25, Tryd.ntmps25
      go_wp2_with fail
      go_ret2
      exact ⟨ret_str2 (by rw [HR.out, HF.out]; rfl) HF.out.symm, Ext.refl _⟩
end Go.Proofs.YtgojagdjlebnnaaDoor
