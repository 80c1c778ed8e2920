/- Contract of caravan/caravanref01: Text. -/
import Derived.Test.YtgojagdjlebnnaaDoorRShaF
import Derived.Test.YtgojagdjlebnnaaDoorShaI
import Derived.Test.YtgojagdjlebnnaaDoorStepK
import Derived.Deep.RegionHeldLaw
namespace Go.Proofs.YtgojagdjlebnnaaDoor
open Go.RowKit

set_option maxHeartbeats 1000000 in
set_option maxRecDepth 100000 in
theorem rtext_any (l : List UInt8) (hl : l.length = 32) (w : World) :
    Calls Tryd.prog 55 #[hashV l] w fun e w' => e = .returned (.string ⟨(hexL l).toArray⟩) ∧ Ext w w' := by
  unfold hashV
  have hsz : (hArr l 32).size = 32 := hArr_size l 32 hl (by omega)
  have HAT := Lib.hid (fun (i : Nat) (x : UInt8) (h : l[i]? = some x) => show (hArr l 32)[i]? = some (.int .u8 x.toNat) from by
    have hi : i < 32 := hl ▸ (List.getElem?_eq_some_iff.1 h).1
    unfold hArr
    rw [List.getElem?_toArray, List.getElem?_append_left (by simp [hl, hi]), List.getElem?_map, List.getElem?_take, if_pos hi, h]; rfl)
  have HSZ := Lib.hid hsz
  obtain ⟨H, hH⟩ : ∃ H, H = hArr l 32 := ⟨_, rfl⟩
  rw [← hH] at hsz HSZ HAT ⊢
  have HDG := fun n h w => Lib.hid (rdigit_any n h w)
  clear hH hsz
  go_enter Tryd.func55, Tryd.ntmps55
  go_wp2_with fail
  have HB0 := Lib.hid (show (w.alloc (.cells H 55)).heap[w.heap.size]? = some (.cells H 55 (0, 0)) from heap_alloc_new _ _)
  have HX0 := Lib.hid ((Ext.refl w).alloc (.cells H 55))
  obtain ⟨wa, hwa⟩ : ∃ x, x = w.alloc (.cells H 55) := ⟨_, rfl⟩
  rw [← hwa] at HB0 HX0 ⊢
  clear hwa
  go_loopw [3, 4] (fun v iv wr => Hid (∃ k : Nat, k ≤ 32 ∧ iv = .int .i64 k ∧ wr.ownsRow wa.heap.size 5 1 v (2 * k) ((hexL (l.take k)).map bv) ∧ Ext wa wr)) (fun _ iv _ => 32 - (intOf iv).toNat)
  case atStart => exact ⟨0, by omega, rfl, World.ownsRow_nil _ _ _ _, Ext.refl _⟩
  case round =>
    obtain ⟨k, hk, rfl, ho, hx⟩ := hrel.out
    clear hrel
    have HX := Lib.hid hx
    have HO := Lib.hid ho
    have hs := hx.size
    obtain ⟨a0, cap0, rfl⟩ := owns_slice ho
    have HBR := Lib.hid ((hx.block (ltB HB0.out)).trans HB0.out)
    by_cases hlt : k < 32
    · obtain ⟨x, hlx⟩ : ∃ x, l[k]? = some x := ⟨_, List.getElem?_eq_getElem (by omega)⟩
      have hxl := x.toNat_lt
      have HST := Lib.hid (show (hexL (l.take (k + 1))).map bv = (hexL (l.take k)).map bv ++ [.int .u8 (hexD (x.toNat / 16)).toNat, .int .u8 (hexD (x.toNat % 16)).toNat] from by rw [hexL_step l k x hlx]; simp [bv])
      have hcx : wr.cell? ⟨w.heap.size, k, none⟩ = some (.int .u8 x.toNat) := (cellB HBR.out).trans (HAT.out k x hlx)
      have HD1 := fun w => Lib.hid (show Calls Tryd.prog 80 #[.int .u8 ((x.toNat : Int) / 16)] w fun e w' => e = .returned (.int .u8 (hexD (x.toNat / 16)).toNat) ∧ w' = w from by
        have := (HDG (x.toNat / 16) (by omega) w).out
        rwa [show ((x.toNat / 16 : Nat) : Int) = (x.toNat : Int) / 16 from by omega] at this)
      have HD2 := fun w => Lib.hid (show Calls Tryd.prog 80 #[.int .u8 ((x.toNat : Int) % 16)] w fun e w' => e = .returned (.int .u8 (hexD (x.toNat % 16)).toNat) ∧ w' = w from by
        have := (HDG (x.toNat % 16) (by omega) w).out
        rwa [show ((x.toNat % 16 : Nat) : Int) = (x.toNat : Int) % 16 from by omega] at this)
      obtain ⟨d1, hd1⟩ : ∃ d, d = hexD (x.toNat / 16) := ⟨_, rfl⟩
      obtain ⟨d2, hd2⟩ : ∃ d, d = hexD (x.toNat % 16) := ⟨_, rfl⟩
      rw [← hd1] at HD1 HST
      rw [← hd2] at HD2 HST
      have b1 : (k : Int) < 32 := by omega
      have b2 : (0 : Int) ≤ (k : Int) := by omega
      obtain ⟨e1, q1⟩ : ∃ e, (x.toNat : Int) / 16 = e := ⟨_, rfl⟩
      obtain ⟨e2, q2⟩ : ∃ e, (x.toNat : Int) % 16 = e := ⟨_, rfl⟩
      have q3 : (x.toNat : Int).tmod 16 = e2 := by rw [← q2]; exact Int.tmod_eq_emod_of_nonneg (by omega)
      have q4 : (x.toNat : Int).tdiv 16 = e1 := by rw [← q1]; exact Int.tdiv_eq_ediv_of_nonneg (by omega)
      rw [q1] at HD1
      rw [q2] at HD2
      have b3 : e1 % 256 = e1 := by omega
      have b4 : e2 % 256 = e2 := by omega
      have b5 : IntKind.u8.wrap e1 = e1 := by rw [IntKind.wrap_u8]; omega
      have b6 : IntKind.u8.wrap e2 = e2 := by rw [IntKind.wrap_u8]; omega
      have HXK := Lib.hid (HAT.out k x hlx)
      clear hd1 hd2 hlx ho hx HDG
      go_wp2_with fail
      go_region_held_law (fun w' => w'.cell? ⟨w.heap.size, k, none⟩ = some (.int .u8 x.toNat)) (go_keep)
       (first
        | (refine step_append_m elU8 wa.heap.size (.slice a0 (2 * k) cap0) (2 * k) ((hexL (l.take k)).map bv) (owns_ext HO.out ?_) wr.heap.size [.int .u8 d1.toNat, .int .u8 d2.toNat] 2 rfl (.tmp 9) (.tmp 20) rfl rfl ?_ ?_ ?_ ?_ ?_ ?_ ?_
           · repeat (first | exact Ext.refl _ | refine Ext.alloc ?_ _ | refine Ext.drew ?_)
           · simp [Act.eval]
           · simp [Act.eval]
           · intro j u hj
             match j, hj with
             | 0, hj => exact (cellB (heap_new_drew rfl)).trans hj
             | 1, hj => exact (cellB (heap_new_drew rfl)).trans hj
             | j + 2, hj => simp at hj
           · intro u hu
             simp only [List.mem_cons, List.not_mem_nil, or_false] at hu
             rcases hu with rfl | rfl <;> rfl
           · omega
           · simp; omega
           intro v' w3 hown3 hgr3
           have hb3 := (hgr3.block w.heap.size (by have := ltB HBR.out; simp; omega) (fun e => by have := (HO.out.lt _ e.symm).1; have := ltB HB0.out; omega)).trans ((((Ext.refl wr).alloc _).drew.block (ltB HBR.out)).trans HBR.out)
           have k1 : w3.cell? ⟨w.heap.size, k, none⟩ = some (.int .u8 x.toNat) := (cellB hb3).trans HXK.out
           have HR := Lib.hid (show w3.ownsRow wa.heap.size 5 1 v' (2 * (k + 1)) ((hexL (l.take (k + 1))).map bv) ∧ Ext wa w3 from ⟨by rw [HST.out]; exact hown3, ext_own ((HX.out.alloc _).drew) (Nat.le_refl _) (owns_ext HO.out (by repeat (first | exact Ext.refl _ | refine Ext.alloc ?_ _ | refine Ext.drew ?_))) hgr3⟩)
           clear hown3 hgr3 hb3)
        | (go_at_call 80; with_reducible refine (HD1 _).out.mono ?_; rintro e w' ⟨rfl, rfl⟩)
        | (go_at_call 80; with_reducible refine (HD2 _).out.mono ?_; rintro e w' ⟨rfl, rfl⟩))
      all_goals
        go_wp2_with fail
        go_roundw
        case rel => exact ⟨k + 1, by omega, by go_num, HR.out.1, HR.out.2⟩
        case measure => simp [intOf] <;> omega
    · have e32 : k = 32 := by omega
      subst e32
      have e : l.take 32 = l := List.take_of_length_le (by omega)
      rw [e] at ho
      clear HO
      obtain ⟨g1, cap1, hv, _, _, hg1, _, hcl⟩ := owns_cell ho (by decide)
      injection hv with hv1 _ hv3
      subst hv1
      subst hv3
      have hcv : ∀ w', Ext wr w' → (convert 43 9 (.slice (some ⟨g1, 0, none⟩) 64 cap0)).run Tryd.prog w' = .ok (.string ⟨(hexL l).toArray⟩) w' := fun w' hx' => by
        have h := run_convert_bytes_back w' 43 9 5 ⟨g1, 0, none⟩ cap0 (hexL l) Tryd.underlying43 (by kernel_rfl) Tryd.underlying9 (fun j hj => by
          rw [show (⟨g1, 0, none⟩ : Addr).add j = ⟨g1, j, none⟩ from by unfold Addr.add; split <;> simp_all]
          have h1 := hcl j (bv (hexL l)[j]) (by rw [List.getElem?_map, List.getElem?_eq_getElem hj]; rfl)
          exact (hx'.cell (lt_of_cell h1)).trans h1)
        rw [hexL_len, hl] at h
        exact h
      have hcw := hcv wr (Ext.refl wr)
      clear hcv hcl ho hx e
      go_wp2_with fail
      go_ret
      exact ⟨rfl, HX0.out.trans HX.out⟩
end Go.Proofs.YtgojagdjlebnnaaDoor
