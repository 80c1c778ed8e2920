/- caravan/disk's Rename. -/
import Derived.Test.YtldppmjjgljinaaGreatDoorDiskE
import Derived.Deep.RegionHeld
namespace Go.Proofs.YtldppmjjgljinaaGreatDoor
open Go.RowKit

set_option maxRecDepth 100000 in
set_option maxHeartbeats 8000000 in
theorem Rename_any {w : World} {d : Nat} {M I : List Nat} {D : Dk} (h : DkAt w d M I D) (O : DkFit D) (E : Env w) (p q : ByteArray) (hp : p.size < 4294967280) (hq : q.size < 4294967281) :
    Calls Tryz.prog 60 #[.pointer (some ⟨d, 0, none⟩), .string p, .string q] w (ActPost w d M I (D.act (.rename p q))) := by
  obtain ⟨W1, hW1⟩ : ∃ W1, W1 = (w.alloc (.cells #[.string p] 9)).alloc (.cells #[.string q] 9) := ⟨_, rfl⟩
  have x1 : Ext w W1 := hW1 ▸ ((Ext.refl w).alloc _).alloc _
  have hsz : W1.heap.size = w.heap.size + 2 := by rw [hW1, size_alloc, size_alloc]
  have cp : W1.cell? ⟨w.heap.size, 0, none⟩ = some (.string p) := hW1 ▸ cell_up cell1
  have cq : W1.cell? ⟨w.heap.size + 1, 0, none⟩ = some (.string q) := by
    have := cell1 (w := w.alloc (.cells #[.string p] 9)) (v := .string q) (t := 9)
    rw [size_alloc] at this
    rw [hW1]; exact this
  have HM := h.lt.1
  have x2 : Ext w (W1.alloc (.cells #[.string p, .string q] 9)).drew := (x1.alloc _).drew
  have HD := fun r hr => Lib.hid (do_any (x := .rename p q) h x2 O E (B := [w.heap.size, w.heap.size + 1]) (F := 130) (cap := #[.pointer (some ⟨w.heap.size, 0, none⟩), .pointer (some ⟨w.heap.size + 1, 0, none⟩)])
    ⟨w.heap.size, w.heap.size + 1, rfl, by simp, by simp, cell_up (o := .cells #[.string p, .string q] 9) cp, cell_up (o := .cells #[.string p, .string q] 9) cq⟩ (fun b hb => by show _ ∧ b < (W1.alloc _).heap.size; rw [size_alloc]; simp at hb; omega) trivial r hr W1.heap.size 2 rfl (by decide)
    (fun k u hk => by
      have hc := fun k => cell_alloc_new (w := W1) (c := #[.string p, .string q]) (t := 9) (m := (0, 0)) (b := W1.heap.size) (k := k) rfl
      match k, hk with
      | 0, hk => simp [Eff.paths] at hk; subst hk; exact hc 0
      | 1, hk => simp [Eff.paths] at hk; subst hk; exact hc 1)
    (fun u hu => by simp [Eff.paths] at hu; rcases hu with rfl | rfl <;> omega))
  have HS := Lib.hid (show ∀ w', Chg M (W1.alloc (.cells #[.string p, .string q] 9)).drew w' → w'.cell? ⟨w.heap.size, 0, none⟩ = some (.string p) ∧ w'.cell? ⟨w.heap.size + 1, 0, none⟩ = some (.string q) from fun w' c => by
    have nm : ∀ b, w.heap.size ≤ b → b ∉ M := fun b hb hm => by have := HM b hm; omega
    exact ⟨(c.cell (by show _ < (W1.alloc _).heap.size; rw [size_alloc]; omega) (nm _ (by omega))).trans (cell_up (o := .cells #[.string p, .string q] 9) cp), (c.cell (by show _ < (W1.alloc _).heap.size; rw [size_alloc]; omega) (nm _ (by omega))).trans (cell_up (o := .cells #[.string p, .string q] 9) cq)⟩)
  have HPx := fun w => Lib.hid (Tryz.strings_HasPrefix q (p ++ ⟨#[47]⟩) w)
  have HRt := Lib.hid (show (Eff.rename p q).right = (!decide (p = q) && !Lib.hasPrefix q.toList (p.toList ++ [47])) from rfl)
  rw [show Lib.hasPrefix q.data.toList (p ++ ⟨#[47]⟩ : ByteArray).data.toList = Lib.hasPrefix q.toList (p.toList ++ [47]) from by rw [← Lib.toList_data, ← Lib.toList_data, toList_append, toList_mk [47]]] at HPx
  rw [hsz] at HD
  clear x1 x2 h O E HM
  subst hW1
  generalize D.act (.rename p q) = R at *
  generalize (Eff.rename p q).right = rt at *
  generalize Lib.hasPrefix q.toList (p.toList ++ [47]) = hpb at *
  have hps : ¬ 9223372036854775807 < p.size + 1 := by omega
  by_cases hpq : p = q
  · have HDr := HD false (by rw [HRt.out]; simp [hpq])
    clear HD HRt
    subst hpq
    go_enter Tryz.func60, Tryz.ntmps60
    go_wp2_with fail
    refine wp_region_held_drew (S := (fun w' => w'.cell? ⟨w.heap.size, 0, none⟩ = some (.string p) ∧ w'.cell? ⟨w.heap.size + 1, 0, none⟩ = some (.string p))) (by kernel_rfl) ?_ (fun hHeld => ?_)
    · (try dsimp only); (first | go_keep | exact HS.out _ (by assumption))
    refine wpAnyH_take (i := 0) (v := ?vz5_1) rfl (by kernel_rfl) (by kernel_rfl) (by kernel_rfl) (fun _ _ _ h => h) (Or.inl ⟨by kernel_rfl, ?yz5_1⟩) (by assumption) ?rz5_1
    case yz5_1 => (intro w hSw; (try dsimp only at hSw); go_simp; try with_reducible rfl)
    simp only [Act.put, List.setIfInBounds_toArray]
    refine wpAnyH_take (i := 1) (v := ?vz5_3) rfl (by kernel_rfl) (by kernel_rfl) (by kernel_rfl) (fun _ _ _ h => h) (Or.inl ⟨by kernel_rfl, ?yz5_3⟩) (by assumption) ?rz5_3
    case yz5_3 => (intro w hSw; (try dsimp only at hSw); go_simp; try with_reducible rfl)
    simp only [Act.put]
    refine wpAnyH_take (i := 2) (v := ?vz5_5) rfl (by kernel_rfl) (by kernel_rfl) (by kernel_rfl) (fun _ _ _ h => h) (Or.inl ⟨by kernel_rfl, ?yz5_5⟩) (by assumption) ?rz5_5
    case yz5_5 => (intro w hSw; (try dsimp only at hSw); go_simp; try with_reducible rfl)
    simp only [Act.put]
    refine wpAnyH_take (i := 3) (v := ?vz5_7) rfl (by kernel_rfl) (by kernel_rfl) (by kernel_rfl) (fun _ _ _ h => h) (Or.inl ⟨by kernel_rfl, ?yz5_7⟩) (by assumption) ?rz5_7
    case yz5_7 => (intro w hSw; (try dsimp only at hSw); go_simp; try with_reducible rfl)
    simp only [Act.put]
    refine wpAnyH_take (i := 4) (v := ?vz5_9) rfl (by kernel_rfl) (by kernel_rfl) (by kernel_rfl) (fun _ _ _ h => h) (Or.inl ⟨by kernel_rfl, ?yz5_9⟩) (by assumption) ?rz5_9
    case yz5_9 => (intro w hSw; (try dsimp only at hSw); go_simp; try with_reducible rfl)
    simp only [Act.put]
    refine wpAnyH_take (i := 5) (v := ?vz5_11) rfl (by kernel_rfl) (by kernel_rfl) (by kernel_rfl) (fun _ _ _ h => h) (Or.inl ⟨by kernel_rfl, ?yz5_11⟩) (by assumption) ?rz5_11
    case yz5_11 => (intro w hSw; (try dsimp only at hSw); go_simp; try with_reducible rfl)
    simp only [Act.put]
    refine wpAnyH_take (i := 6) (v := undef) rfl (by kernel_rfl) (by kernel_rfl) (by kernel_rfl) (fun _ _ _ h => h) (Or.inr ⟨by kernel_rfl, rfl⟩) (by assumption) ?_
    simp only [Act.put]
    refine wpAnyH_take (i := 7) (v := undef) rfl (by kernel_rfl) (by kernel_rfl) (by kernel_rfl) (fun _ _ _ h => h) (Or.inr ⟨by kernel_rfl, rfl⟩) (by assumption) ?_
    simp only [Act.put]
    refine wpAnyH_take (i := 8) (v := undef) rfl (by kernel_rfl) (by kernel_rfl) (by kernel_rfl) (fun _ _ _ h => h) (Or.inr ⟨by kernel_rfl, rfl⟩) (by assumption) ?_
    simp only [Act.put]
    refine wpAnyH_take (i := 9) (v := undef) rfl (by kernel_rfl) (by kernel_rfl) (by kernel_rfl) (fun _ _ _ h => h) (Or.inr ⟨by kernel_rfl, rfl⟩) (by assumption) ?_
    simp only [Act.put]
    refine wpAnyH_take (i := 10) (v := undef) rfl (by kernel_rfl) (by kernel_rfl) (by kernel_rfl) (fun _ _ _ h => h) (Or.inr ⟨by kernel_rfl, rfl⟩) (by assumption) ?_
    simp only [Act.put]
    refine wpAnyH_take (i := 11) (v := ?vz5_13) rfl (by kernel_rfl) (by kernel_rfl) (by kernel_rfl) (fun _ _ _ h => h) (Or.inl ⟨by kernel_rfl, ?yz5_13⟩) (by assumption) ?rz5_13
    case yz5_13 => (intro w hSw; (try dsimp only at hSw); go_simp; try with_reducible rfl)
    simp only [Act.put]
    refine wpAnyH_take (i := 12) (v := ?vz5_15) rfl (by kernel_rfl) (by kernel_rfl) (by kernel_rfl) (fun _ _ _ h => h) (Or.inl ⟨by kernel_rfl, ?yz5_15⟩) (by assumption) ?rz5_15
    case yz5_15 => (intro w hSw; (try dsimp only at hSw); go_simp; try with_reducible rfl)
    simp only [Act.put]
    refine wpAnyH_take (i := 13) (v := ?vz5_17) rfl (by kernel_rfl) (by kernel_rfl) (by kernel_rfl) (fun _ _ _ h => h) (Or.inl ⟨by kernel_rfl, ?yz5_17⟩) (by assumption) ?rz5_17
    case yz5_17 => (intro w hSw; (try dsimp only at hSw); go_simp; try with_reducible rfl)
    simp only [Act.put]
    refine wpAnyH_ready (rs := [14]) (by kernel_rfl) (by simp) ?_
    refine AllReadyH.cons rfl (fun K hK => ?_) ?_
    · go_simp
      refine hK.out _ _ ?_ (fun hHeld => ?_)
      · (try dsimp only); (first | go_keep | exact HS.out _ (by assumption))
      clear hK K
      refine wpAnyH_ready (rs := [15]) (by kernel_rfl) (by simp) ?_
      refine AllReadyH.cons rfl (fun K hK => ?_) ?_
      · go_simp
        go_wp2_with (go_at_call 122; refine HDr.out.mono ?_; rintro e w9 ⟨⟨rfl, h1⟩, h2⟩)
        refine hK.out _ _ ?_ (fun hHeld => ?_)
        · (try dsimp only); (first | go_keep | exact HS.out _ (by assumption))
        clear hK K
        refine wpAnyH_ready (rs := [16]) (by kernel_rfl) (by simp) ?_
        refine AllReadyH.cons rfl (fun K hK => ?_) ?_
        · go_simp
          refine hK.out _ _ ?_ (fun hHeld => ?_)
          · (try dsimp only); (first | go_keep | exact HS.out _ (by assumption))
          clear hK K
          refine wpAnyH_done (by kernel_rfl) ?_ _
          go_wp2_with fail
          go_ret
          exact ⟨rfl, h1⟩
        exact AllReadyH.nil
      exact AllReadyH.nil
    exact AllReadyH.nil
  · have e1 : (p.toList == q.toList) = false := by simpa using fun e => hpq (ba_ext e)
    have e2 : (p.toList != q.toList) = true := by simpa using fun e => hpq (ba_ext e)
    cases hpb with
    | true =>
      have HDr := HD false (by rw [HRt.out]; simp)
      clear HD HRt
      go_enter Tryz.func60, Tryz.ntmps60
      go_wp2_with fail
      refine wp_region_held_drew (S := (fun w' => w'.cell? ⟨w.heap.size, 0, none⟩ = some (.string p) ∧ w'.cell? ⟨w.heap.size + 1, 0, none⟩ = some (.string q))) (by kernel_rfl) ?_ (fun hHeld => ?_)
      · (try dsimp only); (first | go_keep | exact HS.out _ (by assumption))
      refine wpAnyH_take (i := 0) (v := ?vz6_1) rfl (by kernel_rfl) (by kernel_rfl) (by kernel_rfl) (fun _ _ _ h => h) (Or.inl ⟨by kernel_rfl, ?yz6_1⟩) (by assumption) ?rz6_1
      case yz6_1 => (intro w hSw; (try dsimp only at hSw); go_simp; try with_reducible rfl)
      simp only [Act.put, List.setIfInBounds_toArray]
      refine wpAnyH_take (i := 1) (v := ?vz6_3) rfl (by kernel_rfl) (by kernel_rfl) (by kernel_rfl) (fun _ _ _ h => h) (Or.inl ⟨by kernel_rfl, ?yz6_3⟩) (by assumption) ?rz6_3
      case yz6_3 => (intro w hSw; (try dsimp only at hSw); go_simp; try with_reducible rfl)
      simp only [Act.put]
      refine wpAnyH_take (i := 2) (v := ?vz6_5) rfl (by kernel_rfl) (by kernel_rfl) (by kernel_rfl) (fun _ _ _ h => h) (Or.inl ⟨by kernel_rfl, ?yz6_5⟩) (by assumption) ?rz6_5
      case yz6_5 => (intro w hSw; (try dsimp only at hSw); go_simp; try with_reducible rfl)
      simp only [Act.put]
      refine wpAnyH_take (i := 3) (v := ?vz6_7) rfl (by kernel_rfl) (by kernel_rfl) (by kernel_rfl) (fun _ _ _ h => h) (Or.inl ⟨by kernel_rfl, ?yz6_7⟩) (by assumption) ?rz6_7
      case yz6_7 => (intro w hSw; (try dsimp only at hSw); go_simp; try with_reducible rfl)
      simp only [Act.put]
      refine wpAnyH_take (i := 4) (v := ?vz6_9) rfl (by kernel_rfl) (by kernel_rfl) (by kernel_rfl) (fun _ _ _ h => h) (Or.inl ⟨by kernel_rfl, ?yz6_9⟩) (by assumption) ?rz6_9
      case yz6_9 => (intro w hSw; (try dsimp only at hSw); go_simp; try with_reducible rfl)
      simp only [Act.put]
      refine wpAnyH_take (i := 5) (v := ?vz6_11) rfl (by kernel_rfl) (by kernel_rfl) (by kernel_rfl) (fun _ _ _ h => h) (Or.inl ⟨by kernel_rfl, ?yz6_11⟩) (by assumption) ?rz6_11
      case yz6_11 => (intro w hSw; (try dsimp only at hSw); go_simp; try with_reducible rfl)
      simp only [Act.put]
      refine wpAnyH_take (i := 6) (v := ?vz6_13) rfl (by kernel_rfl) (by kernel_rfl) (by kernel_rfl) (fun _ _ _ h => h) (Or.inl ⟨by kernel_rfl, ?yz6_13⟩) (by assumption) ?rz6_13
      case yz6_13 => (intro w hSw; (try dsimp only at hSw); go_simp; try with_reducible rfl)
      simp only [Act.put]
      refine wpAnyH_take (i := 7) (v := ?vz6_15) rfl (by kernel_rfl) (by kernel_rfl) (by kernel_rfl) (fun _ _ _ h => h) (Or.inl ⟨by kernel_rfl, ?yz6_15⟩) (by assumption) ?rz6_15
      case yz6_15 => (intro w hSw; (try dsimp only at hSw); go_simp; try with_reducible rfl)
      simp only [Act.put]
      refine wpAnyH_take (i := 8) (v := ?vz6_17) rfl (by kernel_rfl) (by kernel_rfl) (by kernel_rfl) (fun _ _ _ h => h) (Or.inl ⟨by kernel_rfl, ?yz6_17⟩) (by assumption) ?rz6_17
      case yz6_17 => (intro w hSw; (try dsimp only at hSw); go_simp; try with_reducible rfl)
      simp only [Act.put]
      refine wpAnyH_take (i := 12) (v := ?vz6_19) rfl (by kernel_rfl) (by kernel_rfl) (by kernel_rfl) (fun _ _ _ h => h) (Or.inl ⟨by kernel_rfl, ?yz6_19⟩) (by assumption) ?rz6_19
      case yz6_19 => (intro w hSw; (try dsimp only at hSw); go_simp; try with_reducible rfl)
      simp only [Act.put]
      refine wpAnyH_take (i := 13) (v := ?vz6_21) rfl (by kernel_rfl) (by kernel_rfl) (by kernel_rfl) (fun _ _ _ h => h) (Or.inl ⟨by kernel_rfl, ?yz6_21⟩) (by assumption) ?rz6_21
      case yz6_21 => (intro w hSw; (try dsimp only at hSw); go_simp; try with_reducible rfl)
      simp only [Act.put]
      refine wpAnyH_ready (rs := [9, 14]) (by kernel_rfl) (by simp) ?_
      refine AllReadyH.cons rfl (fun K hK => ?_) ?_
      · go_simp
        go_wp2_with (go_at_call 132; refine (HPx _).out.mono ?_; rintro e w1 ⟨rfl, rfl⟩)
        refine hK.out _ _ ?_ (fun hHeld => ?_)
        · (try dsimp only); (first | go_keep | exact HS.out _ (by assumption))
        clear hK K
        refine wpAnyH_take (i := 10) (v := ?vz6_23) rfl (by kernel_rfl) (by kernel_rfl) (by kernel_rfl) (fun _ _ _ h => h) (Or.inl ⟨by kernel_rfl, ?yz6_23⟩) (by assumption) ?rz6_23
        case yz6_23 => (intro w hSw; (try dsimp only at hSw); go_simp; try with_reducible rfl)
        simp only [Act.put, List.setIfInBounds_toArray]
        refine wpAnyH_take (i := 11) (v := ?vz6_25) rfl (by kernel_rfl) (by kernel_rfl) (by kernel_rfl) (fun _ _ _ h => h) (Or.inl ⟨by kernel_rfl, ?yz6_25⟩) (by assumption) ?rz6_25
        case yz6_25 => (intro w hSw; (try dsimp only at hSw); go_simp; try with_reducible rfl)
        simp only [Act.put]
        refine wpAnyH_ready (rs := [14]) (by kernel_rfl) (by simp) ?_
        refine AllReadyH.cons rfl (fun K hK => ?_) ?_
        · go_simp
          refine hK.out _ _ ?_ (fun hHeld => ?_)
          · (try dsimp only); (first | go_keep | exact HS.out _ (by assumption))
          clear hK K
          refine wpAnyH_ready (rs := [15]) (by kernel_rfl) (by simp) ?_
          refine AllReadyH.cons rfl (fun K hK => ?_) ?_
          · go_simp
            go_wp2_with (go_at_call 122; refine HDr.out.mono ?_; rintro e w9 ⟨⟨rfl, h1⟩, h2⟩)
            refine hK.out _ _ ?_ (fun hHeld => ?_)
            · (try dsimp only); (first | go_keep | exact HS.out _ (by assumption))
            clear hK K
            refine wpAnyH_ready (rs := [16]) (by kernel_rfl) (by simp) ?_
            refine AllReadyH.cons rfl (fun K hK => ?_) ?_
            · go_simp
              refine hK.out _ _ ?_ (fun hHeld => ?_)
              · (try dsimp only); (first | go_keep | exact HS.out _ (by assumption))
              clear hK K
              refine wpAnyH_done (by kernel_rfl) ?_ _
              go_wp2_with fail
              go_ret
              exact ⟨rfl, h1⟩
            exact AllReadyH.nil
          exact AllReadyH.nil
        exact AllReadyH.nil
      refine AllReadyH.cons rfl (fun K hK => ?_) ?_
      · go_simp
        refine hK.out _ _ ?_ (fun hHeld => ?_)
        · (try dsimp only); (first | go_keep | exact HS.out _ (by assumption))
        clear hK K
        refine wpAnyH_ready (rs := [9]) (by kernel_rfl) (by simp) ?_
        refine AllReadyH.cons rfl (fun K hK => ?_) ?_
        · go_simp
          go_wp2_with (go_at_call 132; refine (HPx _).out.mono ?_; rintro e w1 ⟨rfl, rfl⟩)
          refine hK.out _ _ ?_ (fun hHeld => ?_)
          · (try dsimp only); (first | go_keep | exact HS.out _ (by assumption))
          clear hK K
          refine wpAnyH_take (i := 10) (v := ?vz6_27) rfl (by kernel_rfl) (by kernel_rfl) (by kernel_rfl) (fun _ _ _ h => h) (Or.inl ⟨by kernel_rfl, ?yz6_27⟩) (by assumption) ?rz6_27
          case yz6_27 => (intro w hSw; (try dsimp only at hSw); go_simp; try with_reducible rfl)
          simp only [Act.put, List.setIfInBounds_toArray]
          refine wpAnyH_take (i := 11) (v := ?vz6_29) rfl (by kernel_rfl) (by kernel_rfl) (by kernel_rfl) (fun _ _ _ h => h) (Or.inl ⟨by kernel_rfl, ?yz6_29⟩) (by assumption) ?rz6_29
          case yz6_29 => (intro w hSw; (try dsimp only at hSw); go_simp; try with_reducible rfl)
          simp only [Act.put]
          refine wpAnyH_ready (rs := [15]) (by kernel_rfl) (by simp) ?_
          refine AllReadyH.cons rfl (fun K hK => ?_) ?_
          · go_simp
            go_wp2_with (go_at_call 122; refine HDr.out.mono ?_; rintro e w9 ⟨⟨rfl, h1⟩, h2⟩)
            refine hK.out _ _ ?_ (fun hHeld => ?_)
            · (try dsimp only); (first | go_keep | exact HS.out _ (by assumption))
            clear hK K
            refine wpAnyH_ready (rs := [16]) (by kernel_rfl) (by simp) ?_
            refine AllReadyH.cons rfl (fun K hK => ?_) ?_
            · go_simp
              refine hK.out _ _ ?_ (fun hHeld => ?_)
              · (try dsimp only); (first | go_keep | exact HS.out _ (by assumption))
              clear hK K
              refine wpAnyH_done (by kernel_rfl) ?_ _
              go_wp2_with fail
              go_ret
              exact ⟨rfl, h1⟩
            exact AllReadyH.nil
          exact AllReadyH.nil
        exact AllReadyH.nil
      exact AllReadyH.nil
    | false =>
      have HDr := HD true (by rw [HRt.out]; simp [hpq])
      clear HD HRt
      go_enter Tryz.func60, Tryz.ntmps60
      go_wp2_with fail
      refine wp_region_held_drew (S := (fun w' => w'.cell? ⟨w.heap.size, 0, none⟩ = some (.string p) ∧ w'.cell? ⟨w.heap.size + 1, 0, none⟩ = some (.string q))) (by kernel_rfl) ?_ (fun hHeld => ?_)
      · (try dsimp only); (first | go_keep | exact HS.out _ (by assumption))
      refine wpAnyH_take (i := 0) (v := ?vz7_1) rfl (by kernel_rfl) (by kernel_rfl) (by kernel_rfl) (fun _ _ _ h => h) (Or.inl ⟨by kernel_rfl, ?yz7_1⟩) (by assumption) ?rz7_1
      case yz7_1 => (intro w hSw; (try dsimp only at hSw); go_simp; try with_reducible rfl)
      simp only [Act.put, List.setIfInBounds_toArray]
      refine wpAnyH_take (i := 1) (v := ?vz7_3) rfl (by kernel_rfl) (by kernel_rfl) (by kernel_rfl) (fun _ _ _ h => h) (Or.inl ⟨by kernel_rfl, ?yz7_3⟩) (by assumption) ?rz7_3
      case yz7_3 => (intro w hSw; (try dsimp only at hSw); go_simp; try with_reducible rfl)
      simp only [Act.put]
      refine wpAnyH_take (i := 2) (v := ?vz7_5) rfl (by kernel_rfl) (by kernel_rfl) (by kernel_rfl) (fun _ _ _ h => h) (Or.inl ⟨by kernel_rfl, ?yz7_5⟩) (by assumption) ?rz7_5
      case yz7_5 => (intro w hSw; (try dsimp only at hSw); go_simp; try with_reducible rfl)
      simp only [Act.put]
      refine wpAnyH_take (i := 3) (v := ?vz7_7) rfl (by kernel_rfl) (by kernel_rfl) (by kernel_rfl) (fun _ _ _ h => h) (Or.inl ⟨by kernel_rfl, ?yz7_7⟩) (by assumption) ?rz7_7
      case yz7_7 => (intro w hSw; (try dsimp only at hSw); go_simp; try with_reducible rfl)
      simp only [Act.put]
      refine wpAnyH_take (i := 4) (v := ?vz7_9) rfl (by kernel_rfl) (by kernel_rfl) (by kernel_rfl) (fun _ _ _ h => h) (Or.inl ⟨by kernel_rfl, ?yz7_9⟩) (by assumption) ?rz7_9
      case yz7_9 => (intro w hSw; (try dsimp only at hSw); go_simp; try with_reducible rfl)
      simp only [Act.put]
      refine wpAnyH_take (i := 5) (v := ?vz7_11) rfl (by kernel_rfl) (by kernel_rfl) (by kernel_rfl) (fun _ _ _ h => h) (Or.inl ⟨by kernel_rfl, ?yz7_11⟩) (by assumption) ?rz7_11
      case yz7_11 => (intro w hSw; (try dsimp only at hSw); go_simp; try with_reducible rfl)
      simp only [Act.put]
      refine wpAnyH_take (i := 6) (v := ?vz7_13) rfl (by kernel_rfl) (by kernel_rfl) (by kernel_rfl) (fun _ _ _ h => h) (Or.inl ⟨by kernel_rfl, ?yz7_13⟩) (by assumption) ?rz7_13
      case yz7_13 => (intro w hSw; (try dsimp only at hSw); go_simp; try with_reducible rfl)
      simp only [Act.put]
      refine wpAnyH_take (i := 7) (v := ?vz7_15) rfl (by kernel_rfl) (by kernel_rfl) (by kernel_rfl) (fun _ _ _ h => h) (Or.inl ⟨by kernel_rfl, ?yz7_15⟩) (by assumption) ?rz7_15
      case yz7_15 => (intro w hSw; (try dsimp only at hSw); go_simp; try with_reducible rfl)
      simp only [Act.put]
      refine wpAnyH_take (i := 8) (v := ?vz7_17) rfl (by kernel_rfl) (by kernel_rfl) (by kernel_rfl) (fun _ _ _ h => h) (Or.inl ⟨by kernel_rfl, ?yz7_17⟩) (by assumption) ?rz7_17
      case yz7_17 => (intro w hSw; (try dsimp only at hSw); go_simp; try with_reducible rfl)
      simp only [Act.put]
      refine wpAnyH_take (i := 12) (v := ?vz7_19) rfl (by kernel_rfl) (by kernel_rfl) (by kernel_rfl) (fun _ _ _ h => h) (Or.inl ⟨by kernel_rfl, ?yz7_19⟩) (by assumption) ?rz7_19
      case yz7_19 => (intro w hSw; (try dsimp only at hSw); go_simp; try with_reducible rfl)
      simp only [Act.put]
      refine wpAnyH_take (i := 13) (v := ?vz7_21) rfl (by kernel_rfl) (by kernel_rfl) (by kernel_rfl) (fun _ _ _ h => h) (Or.inl ⟨by kernel_rfl, ?yz7_21⟩) (by assumption) ?rz7_21
      case yz7_21 => (intro w hSw; (try dsimp only at hSw); go_simp; try with_reducible rfl)
      simp only [Act.put]
      refine wpAnyH_ready (rs := [9, 14]) (by kernel_rfl) (by simp) ?_
      refine AllReadyH.cons rfl (fun K hK => ?_) ?_
      · go_simp
        go_wp2_with (go_at_call 132; refine (HPx _).out.mono ?_; rintro e w1 ⟨rfl, rfl⟩)
        refine hK.out _ _ ?_ (fun hHeld => ?_)
        · (try dsimp only); (first | go_keep | exact HS.out _ (by assumption))
        clear hK K
        refine wpAnyH_take (i := 10) (v := ?vz7_23) rfl (by kernel_rfl) (by kernel_rfl) (by kernel_rfl) (fun _ _ _ h => h) (Or.inl ⟨by kernel_rfl, ?yz7_23⟩) (by assumption) ?rz7_23
        case yz7_23 => (intro w hSw; (try dsimp only at hSw); go_simp; try with_reducible rfl)
        simp only [Act.put, List.setIfInBounds_toArray]
        refine wpAnyH_take (i := 11) (v := ?vz7_25) rfl (by kernel_rfl) (by kernel_rfl) (by kernel_rfl) (fun _ _ _ h => h) (Or.inl ⟨by kernel_rfl, ?yz7_25⟩) (by assumption) ?rz7_25
        case yz7_25 => (intro w hSw; (try dsimp only at hSw); go_simp; try with_reducible rfl)
        simp only [Act.put]
        refine wpAnyH_ready (rs := [14]) (by kernel_rfl) (by simp) ?_
        refine AllReadyH.cons rfl (fun K hK => ?_) ?_
        · go_simp
          refine hK.out _ _ ?_ (fun hHeld => ?_)
          · (try dsimp only); (first | go_keep | exact HS.out _ (by assumption))
          clear hK K
          refine wpAnyH_ready (rs := [15]) (by kernel_rfl) (by simp) ?_
          refine AllReadyH.cons rfl (fun K hK => ?_) ?_
          · go_simp
            go_wp2_with (go_at_call 122; refine HDr.out.mono ?_; rintro e w9 ⟨⟨rfl, h1⟩, h2⟩)
            refine hK.out _ _ ?_ (fun hHeld => ?_)
            · (try dsimp only); (first | go_keep | exact HS.out _ (by assumption))
            clear hK K
            refine wpAnyH_ready (rs := [16]) (by kernel_rfl) (by simp) ?_
            refine AllReadyH.cons rfl (fun K hK => ?_) ?_
            · go_simp
              refine hK.out _ _ ?_ (fun hHeld => ?_)
              · (try dsimp only); (first | go_keep | exact HS.out _ (by assumption))
              clear hK K
              refine wpAnyH_done (by kernel_rfl) ?_ _
              go_wp2_with fail
              go_ret
              exact ⟨rfl, h1⟩
            exact AllReadyH.nil
          exact AllReadyH.nil
        exact AllReadyH.nil
      refine AllReadyH.cons rfl (fun K hK => ?_) ?_
      · go_simp
        refine hK.out _ _ ?_ (fun hHeld => ?_)
        · (try dsimp only); (first | go_keep | exact HS.out _ (by assumption))
        clear hK K
        refine wpAnyH_ready (rs := [9]) (by kernel_rfl) (by simp) ?_
        refine AllReadyH.cons rfl (fun K hK => ?_) ?_
        · go_simp
          go_wp2_with (go_at_call 132; refine (HPx _).out.mono ?_; rintro e w1 ⟨rfl, rfl⟩)
          refine hK.out _ _ ?_ (fun hHeld => ?_)
          · (try dsimp only); (first | go_keep | exact HS.out _ (by assumption))
          clear hK K
          refine wpAnyH_take (i := 10) (v := ?vz7_27) rfl (by kernel_rfl) (by kernel_rfl) (by kernel_rfl) (fun _ _ _ h => h) (Or.inl ⟨by kernel_rfl, ?yz7_27⟩) (by assumption) ?rz7_27
          case yz7_27 => (intro w hSw; (try dsimp only at hSw); go_simp; try with_reducible rfl)
          simp only [Act.put, List.setIfInBounds_toArray]
          refine wpAnyH_take (i := 11) (v := ?vz7_29) rfl (by kernel_rfl) (by kernel_rfl) (by kernel_rfl) (fun _ _ _ h => h) (Or.inl ⟨by kernel_rfl, ?yz7_29⟩) (by assumption) ?rz7_29
          case yz7_29 => (intro w hSw; (try dsimp only at hSw); go_simp; try with_reducible rfl)
          simp only [Act.put]
          refine wpAnyH_ready (rs := [15]) (by kernel_rfl) (by simp) ?_
          refine AllReadyH.cons rfl (fun K hK => ?_) ?_
          · go_simp
            go_wp2_with (go_at_call 122; refine HDr.out.mono ?_; rintro e w9 ⟨⟨rfl, h1⟩, h2⟩)
            refine hK.out _ _ ?_ (fun hHeld => ?_)
            · (try dsimp only); (first | go_keep | exact HS.out _ (by assumption))
            clear hK K
            refine wpAnyH_ready (rs := [16]) (by kernel_rfl) (by simp) ?_
            refine AllReadyH.cons rfl (fun K hK => ?_) ?_
            · go_simp
              refine hK.out _ _ ?_ (fun hHeld => ?_)
              · (try dsimp only); (first | go_keep | exact HS.out _ (by assumption))
              clear hK K
              refine wpAnyH_done (by kernel_rfl) ?_ _
              go_wp2_with fail
              go_ret
              exact ⟨rfl, h1⟩
            exact AllReadyH.nil
          exact AllReadyH.nil
        exact AllReadyH.nil
      exact AllReadyH.nil
end Go.Proofs.YtldppmjjgljinaaGreatDoor
