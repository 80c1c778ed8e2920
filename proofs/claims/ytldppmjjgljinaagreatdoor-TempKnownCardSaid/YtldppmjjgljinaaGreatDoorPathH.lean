/- Contracts of Parent, Base and Within: the program's and the document's. -/
import Derived.Test.YtldppmjjgljinaaGreatDoorRefB
import Derived.Test.YtldppmjjgljinaaGreatDoorPathC
namespace Go.Proofs.YtldppmjjgljinaaGreatDoor
open Go.RowKit


def parentR (s : ByteArray) : ByteArray := if mayB s then parentS s else ⟨#[]⟩
def baseR (s : ByteArray) : ByteArray := if mayB s then baseS s else ⟨#[]⟩
def withinB (p d : ByteArray) : Bool := mayB p && (d.toList.isEmpty || (mayB d && Lib.hasPrefix p.toList (d.toList ++ [47])))

set_option maxHeartbeats 400000 in
theorem parent_any (s : ByteArray) (w : World) (hs : s.size < 4294967281) (E : Env w) :
    Calls Tryz.prog 30 #[.string s] w fun e w' => e = .returned (.tuple #[.string (parentR s), .bool (mayB s)]) ∧ Ext w w' := by
  have HM := Lib.hid (may_any s w hs E)
  have HS := fun w => Lib.hid (split_any s w (by omega))
  unfold parentR
  generalize parentS s = P at *
  cases h : mayB s
  · rw [h] at HM
    clear h
    go_enter Tryz.func30, Tryz.ntmps30
    go_wp2_with fail
    refine HM.out.mono ?_
    rintro e w1 ⟨rfl, x1⟩
    go_wp2_with fail
    go_ret2
    exact ⟨rfl, x1⟩
  · rw [h] at HM
    clear h
    go_enter Tryz.func30, Tryz.ntmps30
    go_wp2_with fail
    refine HM.out.mono ?_
    rintro e w1 ⟨rfl, x1⟩
    go_wp2_with fail
    refine (HS _).out.mono ?_
    rintro e w2 ⟨rfl, n, rfl⟩
    go_wp2_with fail
    go_ret2
    exact ⟨rfl, x1.drewN n⟩

set_option maxHeartbeats 400000 in
theorem base_any (s : ByteArray) (w : World) (hs : s.size < 4294967281) (E : Env w) :
    Calls Tryz.prog 134 #[.string s] w fun e w' => e = .returned (.string (baseR s)) ∧ Ext w w' := by
  have HM := Lib.hid (may_any s w hs E)
  have HS := fun w => Lib.hid (split_any s w (by omega))
  unfold baseR
  generalize baseS s = P at *
  cases h : mayB s
  · rw [h] at HM
    clear h
    go_enter Tryz.func134, Tryz.ntmps134
    go_wp2_with fail
    refine HM.out.mono ?_
    rintro e w1 ⟨rfl, x1⟩
    go_wp2_with fail
    go_ret
    exact ⟨rfl, x1⟩
  · rw [h] at HM
    clear h
    go_enter Tryz.func134, Tryz.ntmps134
    go_wp2_with fail
    refine HM.out.mono ?_
    rintro e w1 ⟨rfl, x1⟩
    go_wp2_with fail
    refine (HS _).out.mono ?_
    rintro e w2 ⟨rfl, n, rfl⟩
    go_wp2_with fail
    go_ret
    exact ⟨rfl, x1.drewN n⟩

set_option maxHeartbeats 800000 in
theorem within_any (p d : ByteArray) (w : World) (hp : p.size < 4294967281) (hd : d.size < 4294967280) (E : Env w) :
    Calls Tryz.prog 220 #[.string p, .string d] w fun e w' => e = .returned (.bool (withinB p d)) ∧ Ext w w' := by
  have HM := Lib.hid (may_any p w hp E)
  have HD := fun w E => Lib.hid (may_any d w (by omega) E)
  have HP := fun w => Lib.hid (Tryz.strings_HasPrefix p (d ++ ⟨#[47]⟩) w)
  have e1 : Lib.hasPrefix p.data.toList (d ++ ⟨#[47]⟩ : ByteArray).data.toList = Lib.hasPrefix p.toList (d.toList ++ [47]) := by
    rw [← Lib.toList_data, ← Lib.toList_data, toList_append, show (⟨#[47]⟩ : ByteArray).toList = [47] from toList_mk [47]]
  rw [e1] at HP
  clear e1
  unfold withinB
  generalize Lib.hasPrefix p.toList (d.toList ++ [47]) = q at *
  generalize mayB p = mp at *
  generalize mayB d = md at *
  cases mp
  · go_enter Tryz.func220, Tryz.ntmps220
    go_wp2_with fail
    refine HM.out.mono ?_
    rintro e w1 ⟨rfl, x1⟩
    go_wp2_with fail
    go_ret
    exact ⟨rfl, x1⟩
  · cases hde : d.toList.isEmpty
    · cases md
      · go_enter Tryz.func220, Tryz.ntmps220
        go_wp2_with fail
        refine HM.out.mono ?_
        rintro e w1 ⟨rfl, x1⟩
        go_wp2_with fail
        refine (HD _ (E.ext x1)).out.mono ?_
        rintro e w2 ⟨rfl, x2⟩
        go_wp2_with fail
        go_ret
        exact ⟨rfl, x1.trans x2⟩
      · go_enter Tryz.func220, Tryz.ntmps220
        go_wp2_with fail
        refine HM.out.mono ?_
        rintro e w1 ⟨rfl, x1⟩
        go_wp2_with fail
        refine (HD _ (E.ext x1)).out.mono ?_
        rintro e w2 ⟨rfl, x2⟩
        go_wp2_with fail
        refine (HP _).out.mono ?_
        rintro e w3 ⟨rfl, rfl⟩
        go_wp2_with fail
        go_ret
        exact ⟨rfl, x1.trans x2⟩
    · go_enter Tryz.func220, Tryz.ntmps220
      go_wp2_with fail
      refine HM.out.mono ?_
      rintro e w1 ⟨rfl, x1⟩
      go_wp2_with fail
      go_ret
      exact ⟨rfl, x1⟩

set_option maxHeartbeats 400000 in
theorem refParent_any (s : ByteArray) (w : World) (hs : s.size < 4294967281) :
    Calls Tryz.prog 46 #[.string s] w fun e w' => e = .returned (.tuple #[.string (parentR s), .bool (mayB s)]) ∧ Ext w w' := by
  have HM := Lib.hid (refMay_any s w hs)
  have HS := fun w => Lib.hid (ahead_any s w hs)
  unfold parentR
  generalize parentS s = P at *
  cases h : mayB s
  · rw [h] at HM
    clear h
    go_enter Tryz.func46, Tryz.ntmps46
    go_wp2_with fail
    refine HM.out.mono ?_
    rintro e w1 ⟨rfl, x1⟩
    go_wp2_with fail
    go_ret2
    exact ⟨rfl, x1⟩
  · rw [h] at HM
    clear h
    go_enter Tryz.func46, Tryz.ntmps46
    go_wp2_with fail
    refine HM.out.mono ?_
    rintro e w1 ⟨rfl, x1⟩
    go_wp2_with fail
    refine (HS _).out.mono ?_
    rintro e w2 ⟨rfl, x2⟩
    go_wp2_with fail
    go_ret2
    exact ⟨rfl, x1.trans x2⟩

theorem hasPrefix_slash (p d : ByteArray) : Lib.hasPrefix p.toList (d.toList ++ [47]) = (decide (d.size < p.size) && ((p.extract 0 d.size).toList == d.toList) && (p.toList[d.size]? == some 47)) := by
  rw [← Lib.hasPrefix_of_take, toList_extract]
  simp only [List.length_append, List.length_cons, List.length_nil, len_toList, List.drop_zero, Nat.sub_zero, Nat.zero_add]
  by_cases h : d.size < p.size
  · rw [show decide (d.size + 1 ≤ p.size) = true from by simp; omega, show decide (d.size < p.size) = true from by simpa using h]
    have hk : d.size < p.toList.length := by rw [len_toList]; exact h
    rw [List.take_add_one, List.getElem?_eq_getElem hk]
    simp only [Bool.true_and]
    rw [Bool.eq_iff_iff]
    simp only [Bool.and_eq_true, beq_iff_eq, Option.toList_some]
    constructor
    · intro e
      have := List.append_inj e (by rw [List.length_take, len_toList, len_toList]; omega)
      exact ⟨this.1, by simpa using this.2⟩
    · rintro ⟨e1, e2⟩
      rw [e1]; congr 1; simpa using e2
  · rw [show decide (d.size + 1 ≤ p.size) = false from by simp; omega, show decide (d.size < p.size) = false from by simpa using h]
    simp

set_option maxHeartbeats 1600000 in
theorem refWithin_any (p d : ByteArray) (w : World) (hp : p.size < 4294967281) (hd : d.size < 4294967280) :
    Calls Tryz.prog 161 #[.string p, .string d] w fun e w' => e = .returned (.bool (withinB p d)) ∧ Ext w w' := by
  have HM := Lib.hid (refMay_any p w hp)
  have HD := fun w => Lib.hid (refMay_any d w (by omega))
  have HF := Lib.hid (hasPrefix_slash p d)
  unfold withinB
  generalize mayB p = mp at *
  generalize mayB d = md at *
  cases mp
  · go_enter Tryz.func161, Tryz.ntmps161
    go_wp2_with fail
    refine HM.out.mono ?_
    rintro e w1 ⟨rfl, x1⟩
    go_wp2_with fail
    go_ret
    exact ⟨rfl, x1⟩
  · cases hde : d.toList.isEmpty
    · have hde2 : (d.toList == []) = false := by cases hl : d.toList with | nil => rw [hl] at hde; cases hde | cons a b => rfl
      cases md
      · go_enter Tryz.func161, Tryz.ntmps161
        go_wp2_with fail
        refine HM.out.mono ?_
        rintro e w1 ⟨rfl, x1⟩
        go_wp2_with fail
        refine (HD _).out.mono ?_
        rintro e w2 ⟨rfl, x2⟩
        go_wp2_with fail
        go_ret
        exact ⟨rfl, x1.trans x2⟩
      · by_cases hlt : d.size < p.size
        · cases hq : (p.extract 0 d.size).toList == d.toList
          · have HF2 := Lib.hid (HF.out.trans (show _ = false by rw [hq]; simp))
            go_enter Tryz.func161, Tryz.ntmps161
            go_wp2_with fail
            refine HM.out.mono ?_
            rintro e w1 ⟨rfl, x1⟩
            go_wp2_with fail
            refine (HD _).out.mono ?_
            rintro e w2 ⟨rfl, x2⟩
            go_wp2_with fail
            go_ret
            exact ⟨ret_bool (by rw [HF2.out]; rfl), x1.trans x2⟩
          · have hg := getElem_toList p d.size hlt
            by_cases hc : p[d.size] = 47
            · have d1 : ((p[d.size].toNat : Int) == 47) = true := by simp [hc]
              have HF2 := Lib.hid (HF.out.trans (show _ = true by rw [hq, hg, hc, decide_eq_true hlt]; rfl))
              clear hg hc
              go_enter Tryz.func161, Tryz.ntmps161
              go_wp2_with fail
              refine HM.out.mono ?_
              rintro e w1 ⟨rfl, x1⟩
              go_wp2_with fail
              refine (HD _).out.mono ?_
              rintro e w2 ⟨rfl, x2⟩
              go_wp2_with fail
              go_ret
              exact ⟨ret_bool (by rw [HF2.out]; rfl), x1.trans x2⟩
            · have d1 := toNat_ne47 hc
              have HF2 := Lib.hid (HF.out.trans (show _ = false by rw [hg]; simp [hc]))
              clear hg hc
              go_enter Tryz.func161, Tryz.ntmps161
              go_wp2_with fail
              refine HM.out.mono ?_
              rintro e w1 ⟨rfl, x1⟩
              go_wp2_with fail
              refine (HD _).out.mono ?_
              rintro e w2 ⟨rfl, x2⟩
              go_wp2_with fail
              go_ret
              exact ⟨ret_bool (by rw [HF2.out]; rfl), x1.trans x2⟩
        · have HF2 := Lib.hid (HF.out.trans (show _ = false by simp [hlt]))
          go_enter Tryz.func161, Tryz.ntmps161
          go_wp2_with fail
          refine HM.out.mono ?_
          rintro e w1 ⟨rfl, x1⟩
          go_wp2_with fail
          refine (HD _).out.mono ?_
          rintro e w2 ⟨rfl, x2⟩
          go_wp2_with fail
          go_ret
          exact ⟨ret_bool (by rw [HF2.out]; rfl), x1.trans x2⟩
    · have hde2 : (d.toList == []) = true := by cases hl : d.toList with | nil => rfl | cons a b => rw [hl] at hde; cases hde
      go_enter Tryz.func161, Tryz.ntmps161
      go_wp2_with fail
      refine HM.out.mono ?_
      rintro e w1 ⟨rfl, x1⟩
      go_wp2_with fail
      go_ret
      exact ⟨rfl, x1⟩
end Go.Proofs.YtldppmjjgljinaaGreatDoor
