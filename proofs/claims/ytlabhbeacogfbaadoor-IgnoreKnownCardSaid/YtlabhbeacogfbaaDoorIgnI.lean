/- Contracts of the methods of caravan/ignore's List. -/
import Derived.Test.YtlabhbeacogfbaaDoorIgnH
namespace Go.Proofs.YtlabhbeacogfbaaDoor
open Go.RowKit

theorem ListAt.rows {w : World} {ll : Nat} {ts : List ByteArray} (h : ListAt w ll ts) : ∃ (a : Option Addr) (cap : Nat) (ps : List (ByteArray × Pat × Nat)), w.cell? ⟨ll, 0, none⟩ = some (.slice a ps.length cap) ∧ ps.length ≤ cap ∧ cap ≤ maxLen ∧ ps.map (·.1) = ts ∧
    ∀ (j : Nat) x, ps[j]? = some x → ∃ g, a = some ⟨g, 0, none⟩ ∧ w.cell? ⟨g, j, none⟩ = some (.pointer (some ⟨x.2.2, 0, none⟩)) ∧ PatAt w (fun _ => True) x.2.2 x.1 x.2.1 ∧ patL x.1.toList = .ok x.2.1 := by
  obtain ⟨v, ps, h1, h2, h3, h4⟩ := h
  obtain ⟨a, cap, rfl, k1, k2, k3⟩ := h2.shape
  rw [List.length_map] at k1 h1
  refine ⟨a, cap, ps, cell_of_block h1, k1, k2, h3, fun j x hj => ?_⟩
  obtain ⟨g, g1, g2⟩ := k3 j _ (by rw [List.getElem?_map, hj]; rfl)
  exact ⟨g, g1, g2, h4 x (List.mem_of_getElem? hj)⟩

set_option maxHeartbeats 4000000 in
set_option maxRecDepth 100000 in
theorem ilmatch_any (ll : Nat) (ts : List ByteArray) (s : ByteArray) (w : World) (hs : s.size < 4294967281) (hL : ListAt w ll ts) (E : Env w) :
    Calls Tryd.prog 17 #[.pointer (some ⟨ll, 0, none⟩), .string s] w fun e w' => e = .returned (.tuple #[.bool (matchesL (ts.map (·.toList)) s).1, .bool (matchesL (ts.map (·.toList)) s).2]) ∧ Ext w w' := by
  have HMay := Lib.hid (may_any s w hs E)
  obtain ⟨a, cap, ps, c0, h1, h2, rfl, h3⟩ := hL.rows
  unfold maxLen at h2
  have H3 := Lib.hid h3
  have HM := Lib.hid (show matchesL ((ps.map (·.1)).map (·.toList)) s = if mayB s then firstL (ps.map fun x => x.1.toList) s.toList else (false, false) from by rw [List.map_map]; rfl)
  clear hL h3 E
  generalize matchesL ((ps.map (·.1)).map (·.toList)) s = M at *
  cases hm : mayB s with
  | false =>
    rw [hm] at HMay
    have HF := Lib.hid (show M = (false, false) from by rw [HM.out, hm]; rfl)
    clear HM hm c0
    go_enter Tryd.func17, Tryd.ntmps17
    go_wp2_with fail
    refine (HMay.out).mono ?_
    rintro e w1 ⟨rfl, hx⟩
    have HX := Lib.hid hx
    clear hx
    go_wp2_with fail
    go_ret2
    rw [HF.out]
    exact ⟨rfl, HX.out⟩
  | true =>
    rw [hm] at HMay
    have HF := Lib.hid (show M = firstL (ps.map fun x => x.1.toList) s.toList from by rw [HM.out, hm]; rfl)
    clear HM hm
    go_enter Tryd.func17, Tryd.ntmps17
    go_wp2_with fail
    refine (HMay.out).mono ?_
    rintro e w1 ⟨rfl, hx⟩
    have c0' := (hx.cell (lt_of_cell c0)).trans c0
    have HX := Lib.hid hx
    clear hx c0 HMay
    go_wp2_with fail
    go_loopw [20] (fun iv wr => Hid (∃ k : Nat, k ≤ ps.length ∧ iv = .int .i64 k ∧ M = firstL ((ps.drop k).map fun x => x.1.toList) s.toList ∧ Ext w wr)) (fun iv _ => ps.length - (intOf iv).toNat)
    case atStart => exact ⟨0, Nat.zero_le _, rfl, HF.out, HX.out⟩
    case round =>
      obtain ⟨k, hk, rfl, hM, hx⟩ := hrel.out
      clear hrel HX HF c0'
      have HF := Lib.hid hM
      have HX := Lib.hid hx
      by_cases hlt : k < ps.length
      · obtain ⟨x, ht⟩ : ∃ t, ps[k]? = some t := ⟨_, List.getElem?_eq_getElem hlt⟩
        have hdr : ps.drop k = x :: ps.drop (k + 1) := by
          obtain ⟨h1, h2⟩ := List.getElem?_eq_some_iff.1 ht
          rw [List.drop_eq_getElem_cons h1, h2]
        rw [hdr, List.map_cons] at HF
        obtain ⟨g, rfl, c1, hpa, hpt⟩ := H3.out k x ht
        have c2 := (hx.cell (lt_of_cell c1)).trans c1
        obtain ⟨t, p, bp⟩ := x
        have HMt := Lib.hid (gmatch_any bp t s p _ wr (by unfold maxLen; omega) (hpa.ext hx) (patL_ne hpt))
        have HPA := Lib.hid hpa
        have HPT := Lib.hid hpt
        clear c1 hx hM hdr ht hpt hpa
        go_wp2_with fail
        refine (HMt.out).mono ?_
        rintro e w2 ⟨rfl, x2⟩
        have HX2 := Lib.hid (HX.out.trans x2)
        clear x2 HX HMt c2
        have HNeg := Lib.hid (negated_any bp t p _ w2 (HPA.out.ext HX2.out))
        have HDel := Lib.hid (deletable_any bp t p _ w2 (HPA.out.ext HX2.out))
        cases hmt : matchL p s.toList with
        | true =>
          have HR := Lib.hid (HF.out.trans (firstL_hit HPT.out hmt))
          clear hmt HF
          cases hn : p.marks.neg with
          | true =>
            rw [hn] at HNeg HR
            go_wp2_with fail
            refine (HNeg.out).mono ?_
            rintro e w3 ⟨rfl, rfl⟩
            go_wp2_with fail
            refine (HNeg.out).mono ?_
            rintro e w4 ⟨rfl, rfl⟩
            go_wp2_with fail
            go_ret2
            rw [HR.out]
            exact ⟨rfl, HX2.out⟩
          | false =>
            rw [hn] at HNeg HR
            go_wp2_with fail
            refine (HNeg.out).mono ?_
            rintro e w3 ⟨rfl, rfl⟩
            go_wp2_with fail
            refine (HNeg.out).mono ?_
            rintro e w4 ⟨rfl, rfl⟩
            go_wp2_with fail
            refine (HDel.out).mono ?_
            rintro e w5 ⟨rfl, rfl⟩
            go_wp2_with fail
            go_ret2
            rw [HR.out]
            exact ⟨rfl, HX2.out⟩
        | false =>
          have HN := Lib.hid (HF.out.trans (firstL_miss HPT.out hmt))
          clear hmt HF
          go_wp2_with fail
          go_roundw
          case rel => exact ⟨k + 1, by omega, by go_num, HN.out, HX2.out⟩
          case measure => simp [intOf] <;> omega
      · obtain rfl : k = ps.length := by omega
        have HR := Lib.hid (show M = (false, false) from by rw [HF.out, List.drop_length]; rfl)
        have nlt : decide ((ps.length : Int) < (ps.length : Int)) = false := by simp
        clear hM hx
        go_wp2_with fail
        go_ret2
        rw [HR.out]
        exact ⟨rfl, HX.out⟩

/-- No list at all. -/
theorem ilmatch_nil (s : ByteArray) (w : World) :
    Calls Tryd.prog 17 #[.pointer none, .string s] w fun e w' => e = .returned (.tuple #[.bool false, .bool false]) ∧ w' = w := by
  go_enter Tryd.func17, Tryd.ntmps17
  go_wp2_with fail
  go_ret2
  exact ⟨rfl, rfl⟩
theorem illines_nil (w : World) :
    Calls Tryd.prog 16 #[.pointer none] w fun e w' => e = .returned (.slice none 0 0) ∧ w' = w := by
  go_enter Tryd.func16, Tryd.ntmps16
  go_wp2_with fail
  go_ret
  exact ⟨rfl, rfl⟩
theorem illen_nil (w : World) :
    Calls Tryd.prog 14 #[.pointer none] w fun e w' => e = .returned (.int .i64 0) ∧ w' = w := by
  have HL := Lib.hid (illines_nil w)
  go_enter Tryd.func14, Tryd.ntmps14
  go_wp2_with fail
  refine (HL.out).mono ?_
  rintro e w1 ⟨rfl, rfl⟩
  go_wp2_with fail
  go_ret
  exact ⟨rfl, rfl⟩

set_option maxHeartbeats 4000000 in
set_option maxRecDepth 100000 in
theorem illines_any (ll : Nat) (ts : List ByteArray) (w : World) (hL : ListAt w ll ts) (hts : ts.length ≤ 4096) :
    Calls Tryd.prog 16 #[.pointer (some ⟨ll, 0, none⟩)] w fun e w' => ∃ v, e = .returned v ∧ CellsAt w' v (ts.map Value.string) ∧ Ext w w' := by
  obtain ⟨a, cap, ps, c0, h1, h2, rfl, h3⟩ := hL.rows
  unfold maxLen at h2
  rw [List.length_map] at hts
  have H3 := Lib.hid h3
  clear hL h3
  go_enter Tryd.func16, Tryd.ntmps16
  go_wp2_with fail
  go_loopw [13, 3] (fun iv xv wr => Hid (∃ k : Nat, k ≤ ps.length ∧ iv = .int .i64 k ∧ wr.ownsRow w.heap.size 9 1 xv k ((ps.take k).map fun x => Value.string x.1) ∧ Ext w wr)) (fun iv _ _ => ps.length - (intOf iv).toNat)
  case atStart => exact ⟨0, Nat.zero_le _, rfl, World.ownsRow_nil _ _ _ _, Ext.refl w⟩
  case round =>
    obtain ⟨k, hk, rfl, ho, hx⟩ := hrel.out
    clear hrel c0
    have HX := Lib.hid hx
    have HO := Lib.hid ho
    by_cases hlt : k < ps.length
    · obtain ⟨x, ht⟩ : ∃ t, ps[k]? = some t := ⟨_, List.getElem?_eq_getElem hlt⟩
      obtain ⟨g, rfl, c1, hpa, _⟩ := H3.out k x ht
      have c2 := (hx.cell (lt_of_cell c1)).trans c1
      obtain ⟨t, p, bp⟩ := x
      have HT := Lib.hid (text_any bp t p _ wr (hpa.ext hx))
      have HTK := Lib.hid (show ps.take (k + 1) = ps.take k ++ [(t, p, bp)] from by rw [List.take_add_one, ht]; rfl)
      clear c1 hx hpa ht ho
      go_wp2_with fail
      refine (HT.out).mono ?_
      rintro e w1 ⟨rfl, rfl⟩
      clear HT
      go_wp2_with (at_builtin; refine append_one el_string w.heap.size _ _ _ (HO.out.alloc _) w1.heap.size (.string t) (.tmp 17) (.tmp 20) rfl rfl rfl rfl (by rw [cell_alloc_new rfl]; rfl) rfl (by omega) (by have := HX.out.size; simp; omega) ?_)
      intro v' w2 hown2 hg2 hv2
      have HX2 := Lib.hid (own_ext (HX.out.alloc (.cells #[.string t] 9 (0, 0))) rfl (HO.out.alloc _) hg2)
      have HO2 := Lib.hid (show w2.ownsRow w.heap.size 9 1 v' (k + 1) ((ps.take (k + 1)).map fun x => Value.string x.1) from by rw [HTK.out, List.map_append]; rw [← List.map_take] at hown2; exact hown2)
      clear hown2 hg2 hv2
      go_wp2_with fail
      go_roundw
      case rel => exact ⟨k + 1, by omega, by go_num, HO2.out, HX2.out⟩
      case measure => simp [intOf] <;> omega
    · obtain rfl : k = ps.length := by omega
      have nlt : decide ((ps.length : Int) < (ps.length : Int)) = false := by simp
      clear hx ho
      go_wp2_with fail
      go_ret
      refine ⟨_, rfl, CellsAt.of_owns (base := w.heap.size) (e := 9) ?_, HX.out⟩
      have := HO.out
      rw [List.take_length] at this
      simpa [List.map_map, Function.comp_def] using this

theorem illen_any (ll : Nat) (ts : List ByteArray) (w : World) (hL : ListAt w ll ts) (hts : ts.length ≤ 4096) :
    Calls Tryd.prog 14 #[.pointer (some ⟨ll, 0, none⟩)] w fun e w' => e = .returned (.int .i64 (ts.length : Nat)) ∧ Ext w w' := by
  have HL := Lib.hid (illines_any ll ts w hL hts)
  go_enter Tryd.func14, Tryd.ntmps14
  go_wp2_with fail
  refine (HL.out).mono ?_
  rintro e w1 ⟨v, rfl, hc, hx⟩
  obtain ⟨a, cap, rfl, h1, h2, h3⟩ := hc.shape
  have HX := Lib.hid hx
  rw [List.length_map]
  clear hc h3 hx HL
  go_wp2_with fail
  go_ret
  exact ⟨rfl, HX.out⟩
end Go.Proofs.YtlabhbeacogfbaaDoor
