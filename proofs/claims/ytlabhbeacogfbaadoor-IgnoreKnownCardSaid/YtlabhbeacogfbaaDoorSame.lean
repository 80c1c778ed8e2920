/- Contract of caravan/caravanref02.Same. -/
import Derived.Test.YtlabhbeacogfbaaDoorOwn
namespace Go.Proofs.YtlabhbeacogfbaaDoor
open Go.RowKit

/-- The shape of a slice value that reads as a list of texts. -/
theorem CellsAt.view {w : World} {v : Value} {l : List ByteArray} (h : CellsAt w v (l.map Value.string)) :
    ∃ (a : Option Addr) (cap : Nat), v = .slice a l.length cap ∧ l.length ≤ cap ∧ cap ≤ maxLen ∧ ∀ (j : Nat) x, l[j]? = some x → ∃ g, a = some ⟨g, 0, none⟩ ∧ w.cell? ⟨g, j, none⟩ = some (.string x) := by
  rcases h with ⟨rfl, h0⟩ | ⟨g, cap, rfl, hg, hc, hm, hcells⟩
  · have : l = [] := by simpa using h0
    subst this
    exact ⟨none, 0, rfl, Nat.le_refl _, by unfold maxLen; omega, fun j x hx => by simp at hx⟩
  · rw [List.length_map] at *
    exact ⟨some ⟨g, 0, none⟩, cap, rfl, hc, hm, fun j x hx => ⟨g, rfl, hcells j _ (by rw [List.getElem?_map, hx]; rfl)⟩⟩

def sameB (l m : List ByteArray) : Bool := l.map (·.toList) == m.map (·.toList)

theorem sameB_len {l m : List ByteArray} (h : l.length ≠ m.length) : sameB l m = false := by
  unfold sameB
  rw [beq_eq_false_iff_ne]
  intro e
  have := congrArg List.length e
  simp at this
  exact h this
theorem sameB_diff {l m : List ByteArray} {k : Nat} {x y : ByteArray} (hx : l[k]? = some x) (hy : m[k]? = some y) (h : (x.toList == y.toList) = false) : sameB l m = false := by
  unfold sameB
  rw [beq_eq_false_iff_ne] at h ⊢
  intro e
  apply h
  have := congrArg (·[k]?) e
  simpa [hx, hy] using this

set_option maxHeartbeats 1600000 in
theorem same_any (v u : Value) (l m : List ByteArray) (w : World) (hv : CellsAt w v (l.map Value.string)) (hu : CellsAt w u (m.map Value.string)) :
    Calls Tryd.prog 15 #[v, u] w fun e w' => e = .returned (.bool (sameB l m)) ∧ Ext w w' := by
  obtain ⟨a, c, rfl, c1, c2, hA⟩ := hv.view
  obtain ⟨b, d, rfl, d1, d2, hB⟩ := hu.view
  unfold maxLen at c2 d2
  have HA := Lib.hid hA
  have HB := Lib.hid hB
  clear hA hB hv hu
  by_cases hl : l.length = m.length
  · have HS := Lib.hid (show ∀ k, k = l.length → (l.take k).map (·.toList) = (m.take k).map (·.toList) → sameB l m = true from fun k hk h => by
      subst hk; rw [List.take_length, hl, List.take_length] at h; unfold sameB; rw [h]; simp)
    have n1 : ((l.length : Int) != m.length) = false := by simp [hl]
    have HLM := Lib.hid hl
    have hle : l.length ≤ m.length := by omega
    clear hl
    go_enter Tryd.func15, Tryd.ntmps15
    go_wp2_with fail
    go_loopw [5] (fun i wr => ∃ k : Nat, k ≤ l.length ∧ i = .int .i64 k ∧ Hid ((l.take k).map (·.toList) = (m.take k).map (·.toList)) ∧ Hid (∃ n, wr = w.drewN n)) (fun i _ => l.length - (intOf i).toNat)
    case atStart => exact ⟨0, Nat.zero_le _, rfl, rfl, ⟨0, rfl⟩⟩
    case round =>
      obtain ⟨k, hk, rfl, H, Hn⟩ := hrel
      obtain ⟨n, rfl⟩ := Hn.out
      clear Hn
      by_cases hlt : k < l.length
      · obtain ⟨x, hx⟩ : ∃ x, l[k]? = some x := ⟨_, List.getElem?_eq_getElem hlt⟩
        obtain ⟨y, hy⟩ : ∃ y, m[k]? = some y := ⟨_, List.getElem?_eq_getElem (by omega)⟩
        obtain ⟨g, rfl, hcx⟩ := HA.out k x hx
        obtain ⟨g', rfl, hcy⟩ := HB.out k y hy
        have HX := Lib.hid hx
        have HY := Lib.hid hy
        clear hx hy
        have hkm : k < m.length := by omega
        cases hq : x.toList == y.toList
        · have HF := Lib.hid (sameB_diff HX.out HY.out hq)
          have hq2 : (x.toList != y.toList) = true := by simp [bne, hq]
          go_wp2_with fail
          go_quiet (fail)
          go_wp2_with fail
          go_ret
          exact ⟨ret_bool HF.out.symm, ((Ext.refl w).drewN _).drewN _⟩
        · have HE := Lib.hid (beq_iff_eq.1 hq)
          have hq2 : (x.toList != y.toList) = false := by simp [bne, hq]
          go_wp2_with fail
          go_quiet (fail)
          go_wp2_with fail
          go_roundw
          case rel => exact ⟨k + 1, by omega, by go_num, by unfold Hid; rw [List.take_add_one, List.take_add_one, HX.out, HY.out, List.map_append, List.map_append, H.out]; simp [HE.out], ⟨_, rfl⟩⟩
          case measure => simp [intOf]; omega
      · have : k = l.length := by omega
        have HF := Lib.hid (HS.out k this H.out)
        subst this
        clear H HS
        go_wp2_with fail
        go_ret
        exact ⟨ret_bool HF.out.symm, (Ext.refl w).drewN n⟩
  · have HF := Lib.hid (sameB_len hl)
    have n1 : ((l.length : Int) != m.length) = true := by simp; omega
    clear hl
    go_enter Tryd.func15, Tryd.ntmps15
    go_wp2_with fail
    go_ret
    exact ⟨ret_bool HF.out.symm, Ext.refl _⟩

end Go.Proofs.YtlabhbeacogfbaaDoor
