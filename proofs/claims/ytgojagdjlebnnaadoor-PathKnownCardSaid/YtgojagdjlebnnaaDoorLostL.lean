/- Conflict names of one path: of unlike times or devices they are unlike. No program in sight. -/
import Derived.Test.YtgojagdjlebnnaaDoorDigits
namespace Go.Proofs.YtgojagdjlebnnaaDoor

theorem besideS_toList (p b : ByteArray) : (besideS p b).toList = (if p.toList.isEmpty then [] else p.toList ++ [47]) ++ b.toList := by
  unfold besideS
  split
  · simp
  · simp [toList_append]

theorem conflictS_toList (p : ByteArray) (t d : Int) (t0 : 0 ≤ t) (t1 : t ≤ 4294967295) (d0 : 0 ≤ d) (d1 : d ≤ 16) :
    (conflictS p t d).toList = ((if (parentS p).toList.isEmpty then [] else (parentS p).toList ++ [47]) ++ ((stemS (baseS p)).toList ++ markS.toList)) ++ (fixed t.toNat 10 ++ ([45] ++ (fixed d.toNat 2 ++ (extS (baseS p)).toList))) := by
  unfold conflictS
  rw [besideS_toList]
  simp only [toList_append, toList_mk]
  rw [padS_toList t 10 t0 (by decide) (by show _ < 10000000000; omega), padS_toList d 2 d0 (by decide) (by show _ < 100; omega)]
  simp only [List.append_assoc]

theorem conflict_inj (p : ByteArray) (t u d e : Int) (t0 : 0 ≤ t) (t1 : t ≤ 4294967295) (u0 : 0 ≤ u) (u1 : u ≤ 4294967295) (d0 : 0 ≤ d) (d1 : d ≤ 16) (e0 : 0 ≤ e) (e1 : e ≤ 16)
    (h : (conflictS p t d).toList = (conflictS p u e).toList) : t = u ∧ d = e := by
  rw [conflictS_toList p t d t0 t1 d0 d1, conflictS_toList p u e u0 u1 e0 e1] at h
  have h1 := List.append_cancel_left h
  have h2 := List.append_inj h1 (by rw [fixed_length, fixed_length])
  have h3 := List.append_inj (List.append_cancel_left h2.2) (by rw [fixed_length, fixed_length])
  have a := fixed_inj 10 _ _ (by show _ < 10000000000; omega) (by show _ < 10000000000; omega) h2.1
  have b := fixed_inj 2 _ _ (by show _ < 100; omega) (by show _ < 100; omega) h3.1
  omega
theorem conflict_eq (p : ByteArray) (t u d e : Int) (t0 : 0 ≤ t) (t1 : t ≤ 4294967295) (u0 : 0 ≤ u) (u1 : u ≤ 4294967295) (d0 : 0 ≤ d) (d1 : d ≤ 16) (e0 : 0 ≤ e) (e1 : e ≤ 16) :
    ((conflictS p t d).toList == (conflictS p u e).toList) = (t == u && d == e) := by
  by_cases h : t = u ∧ d = e
  · obtain ⟨rfl, rfl⟩ := h; simp
  · have h1 : ((conflictS p t d).toList == (conflictS p u e).toList) = false := by
      rw [beq_eq_false_iff_ne]; exact fun hh => h (conflict_inj p t u d e t0 t1 u0 u1 d0 d1 e0 e1 hh)
    rw [h1]
    by_cases h2 : t = u
    · have h3 : ¬ d = e := fun h3 => h ⟨h2, h3⟩
      simp [h3]
    · simp [h2]
end Go.Proofs.YtgojagdjlebnnaaDoor
