/- Contract of caravan/caravanref01: Words. -/
import Derived.Test.YtgojagdjlebnnaaDoorRShaD
import Derived.Test.YtgojagdjlebnnaaDoorStepK
import Derived.Deep.RegionHeldLaw
namespace Go.Proofs.YtgojagdjlebnnaaDoor
open Go.RowKit

theorem elU32 : Elem Tryd.prog 79 22 (.int .u32 0) 4 := ⟨by kernel_rfl, by kernel_rfl, rfl, by decide⟩
def accW (r : List UInt8) (t : Nat) : Nat → Nat
  | 0 => 0
  | k + 1 => 256 * accW r t k + (r.getD (4 * t + k) 0).toNat
theorem accW_lt (r : List UInt8) (t : Nat) : ∀ k, accW r t k < 256 ^ k
  | 0 => Nat.one_pos
  | k + 1 => by
    have := accW_lt r t k
    have h2 := (r.getD (4 * t + k) 0).toNat_lt
    unfold accW
    rw [Nat.pow_succ]; omega
theorem accW_four (r : List UInt8) (t : Nat) : accW r t 4 = (((r.getD (4 * t) 0).toNat * 256 + (r.getD (4 * t + 1) 0).toNat) * 256 + (r.getD (4 * t + 2) 0).toNat) * 256 + (r.getD (4 * t + 3) 0).toNat := by
  simp only [accW, Nat.add_zero, Nat.zero_add, Nat.mul_zero]
  omega
theorem accW_word (r : List UInt8) (t : Nat) (h : t < 16) (l : List Wd) : accW r t 4 = (nextW r l t).toNat := by
  have h4 := accW_lt r t 4
  unfold nextW wordAt
  rw [if_pos h, BitVec.toNat_ofNat, Nat.mod_eq_of_lt]
  · exact accW_four r t
  · rw [← accW_four]; exact h4
theorem owns_cell {w : World} {base n : Nat} {e : TypeId} {v : Value} {xs : List Value} (h : w.ownsRow base e 1 v n xs) (hn : 0 < n) : ∃ g cap, v = .slice (some ⟨g, 0, none⟩) n cap ∧ n ≤ cap ∧ cap ≤ maxLen ∧ g < w.heap.size ∧ base ≤ g ∧ ∀ (j : Nat) u, xs[j]? = some u → w.cell? ⟨g, j, none⟩ = some u := by
  rcases h.2 with ⟨_, h2⟩ | ⟨g, cap, cur, hv, hb, hh, hc, hm, _⟩
  · omega
  · subst hv
    refine ⟨g, cap, rfl, hc, hm, ltB hh, hb, fun j u hj => ?_⟩
    rw [h.cellAt j (by have := (List.getElem?_eq_some_iff.1 hj).1; have := h.1; omega), hj]

set_option maxHeartbeats 1000000 in
set_option maxRecDepth 100000 in
theorem rwords_any (r : List UInt8) (g o cap : Nat) (w : World) (hr : r.length = 64) (hcell : ∀ (j : Nat) x, r[j]? = some x → w.cell? ⟨g, o + j, none⟩ = some (bv x)) :
    Calls Tryd.prog 78 #[.slice (some ⟨g, o, none⟩) 64 cap] w fun e w' => ∃ u, e = .returned u ∧ CellsAt w' u ((wordsL r 64).map wv) ∧ Ext w w' := by
  have HC := Lib.hid hcell
  clear hcell
  have HT := fun x n h1 h2 w => Lib.hid (rturned_any x n h1 h2 w)
  go_enter Tryd.func78, Tryd.ntmps78
  go_wp2_with fail
  go_loopw [3, 4] (fun v iv wr => Hid (∃ t : Nat, t ≤ 64 ∧ iv = .int .i64 t ∧ wr.ownsRow w.heap.size 22 1 v t ((wordsL r t).map wv) ∧ Ext w wr)) (fun _ iv _ => 64 - (intOf iv).toNat)
  case atStart => exact ⟨0, by omega, rfl, World.ownsRow_nil _ _ _ _, Ext.refl _⟩
  case round =>
    obtain ⟨t, ht, rfl, ho, hx⟩ := hrel.out
    clear hrel
    have HX := Lib.hid hx
    have HO := Lib.hid ho
    have hs := hx.size
    by_cases hlt : t < 64
    · have HST := Lib.hid (show (wordsL r (t + 1)).map wv = (wordsL r t).map wv ++ [wv (nextW r (wordsL r t) t)] from by rw [show wordsL r (t + 1) = wordsL r t ++ [nextW r (wordsL r t) t] from rfl, List.map_append]; rfl)
      have HLN := Lib.hid (wordsL_len r t)
      by_cases h16 : t < 16
      · obtain ⟨a0, cap0, rfl⟩ := owns_slice ho
        clear ho hx
        have HW := Lib.hid (accW_word r t h16 (wordsL r t))
        go_wp2_with fail
        go_loopw [5, 6] (fun xv kv w2 => Hid (∃ k : Nat, k ≤ 4 ∧ kv = .int .i64 k ∧ xv = .int .u32 (accW r t k) ∧ w2 = wr)) (fun _ kv _ => 4 - (intOf kv).toNat)
        case atStart => exact ⟨0, by omega, rfl, rfl, rfl⟩
        case round =>
          obtain ⟨k, hk, rfl, rfl, hw⟩ := hrel.out
          clear hrel
          by_cases h4 : k < 4
          · have hb : accW r t k < 16777216 := Nat.lt_of_lt_of_le (accW_lt r t k) (Nat.le_trans (Nat.pow_le_pow_right (by decide) (show k ≤ 3 by omega)) (by decide))
            obtain ⟨x, hxr⟩ : ∃ x, r[4 * t + k]? = some x := ⟨_, List.getElem?_eq_getElem (by omega)⟩
            have hcx : wr.cell? ⟨g, o + (4 * t + k), none⟩ = some (.int .u8 x.toNat) := by
              rw [hw]; exact (HX.out.cell (lt_of_cell (HC.out _ _ hxr))).trans (HC.out _ _ hxr)
            have HA := Lib.hid (show accW r t (k + 1) = 256 * accW r t k + x.toNat from by rw [accW, List.getD_eq_getElem?_getD, hxr]; rfl)
            obtain ⟨acc, hacc⟩ : ∃ acc, acc = accW r t k := ⟨_, rfl⟩
            rw [← hacc] at hb HA ⊢
            have HACC := Lib.hid hacc
            have hxl := x.toNat_lt
            have HWR := Lib.hid hw
            clear hacc hxr hw
            go_wp2_with fail
            go_roundw
            case rel => exact ⟨k + 1, by omega, by go_num, by rw [HA.out]; go_num, HWR.out⟩
            case measure => simp [intOf]; omega
          · have e4 : k = 4 := by omega
            rw [e4, HW.out]
            have HK4 := Lib.hid e4
            clear h4 hk e4
            subst hw
            go_wp2_with (at_builtin; refine append_one elU32 w.heap.size _ _ _ (HO.out.alloc _) wr.heap.size (wv (nextW r (wordsL r t) t)) (.tmp 32) (.tmp 34) rfl rfl rfl rfl ?c1 rfl (by omega) ?c2 ?_)
            case c1 => rw [cell_alloc_new rfl]; rfl
            case c2 => simp; omega
            intro v' w3 hown3 hg3 _
            have HX3 := Lib.hid (ext_own (HX.out.alloc _) (Nat.le_refl _) (HO.out.alloc _) hg3)
            go_wp2_with fail
            go_roundw
            case rel => exact ⟨t + 1, by omega, by go_num, by rw [HST.out]; exact hown3, HX3.out⟩
            case measure => simp [intOf]; omega
      · obtain ⟨g1, cap1, rfl, hn1, hm1, hg1, hbg1, hcl1⟩ := owns_cell ho (by omega)
        have hq : ∀ j, j < t → ∀ v : After wr, v.v.cell? ⟨g1, j, none⟩ = some (.int .u32 ((wordsL r t).getD j 0).toNat) := fun j hj v => After.cell (hcl1 _ _ (by
          rw [List.getElem?_map, List.getD_eq_getElem?_getD, wordsL_at r t j hj]; rfl)) v
        have hwl : ∀ j, j < t → ((wordsL r t).map wv)[j]? = some (.int .u32 ((wordsL r t).getD j 0).toNat) := fun j hj => by
          rw [List.getElem?_map, List.getD_eq_getElem?_getD, wordsL_at r t j hj]; rfl
        obtain ⟨x0, g0⟩ : ∃ x, x = (wordsL r t).getD (t - 16) 0 := ⟨_, rfl⟩
        obtain ⟨x1, gg1⟩ : ∃ x, x = (wordsL r t).getD (t - 15) 0 := ⟨_, rfl⟩
        obtain ⟨x9, g9⟩ : ∃ x, x = (wordsL r t).getD (t - 7) 0 := ⟨_, rfl⟩
        obtain ⟨x14, g14⟩ : ∃ x, x = (wordsL r t).getD (t - 2) 0 := ⟨_, rfl⟩
        have p0 : ∀ v : After wr, v.v.cell? ⟨g1, t - 16, none⟩ = some (.int .u32 x0.toNat) := fun v => by rw [g0]; exact hq _ (by omega) v
        have p1 : ∀ v : After wr, v.v.cell? ⟨g1, t - 15, none⟩ = some (.int .u32 x1.toNat) := fun v => by rw [gg1]; exact hq _ (by omega) v
        have p9 : ∀ v : After wr, v.v.cell? ⟨g1, t - 7, none⟩ = some (.int .u32 x9.toNat) := fun v => by rw [g9]; exact hq _ (by omega) v
        have p14 : ∀ v : After wr, v.v.cell? ⟨g1, t - 2, none⟩ = some (.int .u32 x14.toNat) := fun v => by rw [g14]; exact hq _ (by omega) v
        have HK0 := Lib.hid (show ((wordsL r t).map wv)[t - 16]? = some (.int .u32 x0.toNat) from by rw [g0]; exact hwl _ (by omega))
        have HK9 := Lib.hid (show ((wordsL r t).map wv)[t - 7]? = some (.int .u32 x9.toNat) from by rw [g9]; exact hwl _ (by omega))
        obtain ⟨s0, hs0⟩ : ∃ s, s = sg0 x1 := ⟨_, rfl⟩
        obtain ⟨s1, hs1⟩ : ∃ s, s = sg1 x14 := ⟨_, rfl⟩
        have HE := Lib.hid (show x0 + s0 + x9 + s1 = nextW r (wordsL r t) t from by
          unfold nextW
          rw [if_neg h16, hs0, hs1, g0, gg1, g9, g14])
        have HS0 := Lib.hid (show bits BinOp.xor IntKind.u32 (bits BinOp.xor IntKind.u32 ((rotr x1 7).toNat : Int) (rotr x1 18).toNat) ((x1.toNat : Int) / (8 : Int)) = (s0.toNat : Int) from by
          rw [wd_xor, wd_shr3, wd_xor, hs0]; rfl)
        have HS1 := Lib.hid (show bits BinOp.xor IntKind.u32 (bits BinOp.xor IntKind.u32 ((rotr x14 17).toNat : Int) (rotr x14 19).toNat) ((x14.toNat : Int) / (1024 : Int)) = (s1.toNat : Int) from by
          rw [wd_xor, wd_shr10, wd_xor, hs1]; rfl)
        have HSUM := Lib.hid (show (((x0.toNat : Int) + s0.toNat + x9.toNat) % 4294967296 + s1.toNat) % 4294967296 = ((nextW r (wordsL r t) t).toNat : Int) from by
          rw [← HE.out, ← wd_add, ← wd_add, ← wd_add]; omega)
        obtain ⟨nx, hnx⟩ : ∃ nx, nx = nextW r (wordsL r t) t := ⟨_, rfl⟩
        obtain ⟨nl, hnl⟩ : ∃ nl, nl = (wordsL r (t + 1)).map wv := ⟨_, rfl⟩
        obtain ⟨ws, hws⟩ : ∃ ws, ws = (wordsL r t).map wv := ⟨_, rfl⟩
        have HNL := Lib.hid hnl
        rw [← hnx] at HE HSUM HST
        rw [← hnl] at HST
        rw [← hws] at HO HST HK0 HK9
        clear hnx hnl hws HE HLN hwl hq g0 gg1 g9 g14 hcl1 ho hx hs0 hs1
        have h16' : decide ((t : Int) < 16) = false := by simp; omega
        go_wp2_with fail
        refine wp_region_after (by kernel_rfl) (by kernel_rfl) ?_
        repeat (go_big_quiet_step (fail))
        refine wpQuiet_nil ?_; rintro _ ⟨y, rfl⟩
        obtain ⟨wy, xy⟩ := y
        go_wp2_with fail
        refine (HT x1 7 (by decide) (by decide) _).out.mono ?_
        rintro e w2 ⟨rfl, rfl⟩
        go_wp2_with fail
        refine (HT x1 18 (by decide) (by decide) _).out.mono ?_
        rintro e w2 ⟨rfl, rfl⟩
        go_wp2_with fail
        refine (HT x14 17 (by decide) (by decide) _).out.mono ?_
        rintro e w2 ⟨rfl, rfl⟩
        go_wp2_with fail
        refine (HT x14 19 (by decide) (by decide) _).out.mono ?_
        rintro e w2 ⟨rfl, rfl⟩
        rw [HS0.out]
        go_wp2_with fail
        rw [HS1.out]
        have HO4 := Lib.hid (owns_ext HO.out xy)
        have HX4 := Lib.hid (HX.out.trans xy)
        have hs4 := xy.size
        have c0 : w2.cell? ⟨g1, t - 16, none⟩ = some (.int .u32 x0.toNat) := p0 ⟨w2, xy⟩
        have c9 : w2.cell? ⟨g1, t - 7, none⟩ = some (.int .u32 x9.toNat) := p9 ⟨w2, xy⟩
        clear p0 p1 p9 p14 xy
        have b9 : (16 : Int) ≤ (t : Int) := by omega
        have b10 : (7 : Int) ≤ (t : Int) := by omega
        have b2 : (t : Int) - 16 < (t : Int) := by omega
        have b4 : (t : Int) - 7 < (t : Int) := by omega
        have b5 : IntKind.i64.wrap ((t : Int) - 16) = (t : Int) - 16 := by rw [IntKind.wrap_i64]; omega
        have b6 : IntKind.i64.wrap ((t : Int) - 7) = (t : Int) - 7 := by rw [IntKind.wrap_i64]; omega
        rw [show t - 16 = ((t : Int) - 16).toNat from by omega] at c0 HK0
        rw [show t - 7 = ((t : Int) - 7).toNat from by omega] at c9 HK9
        go_region_held_law (fun w' => w'.cell? ⟨g1, ((t : Int) - 16).toNat, none⟩ = some (.int .u32 x0.toNat) ∧ w'.cell? ⟨g1, ((t : Int) - 7).toNat, none⟩ = some (.int .u32 x9.toNat)) (go_keep)
         ((refine step_append_keep elU32 w.heap.size (.slice (some ⟨g1, 0, none⟩) t cap1) t ws (owns_ext HO4.out ?_) w2.heap.size (wv (nx)) (.tmp 62) (.tmp 78) rfl rfl ?_ ?_ ?_ rfl ?_ ?_ ?_
           · repeat (first | exact Ext.refl _ | refine Ext.alloc ?_ _ | refine Ext.drew ?_)
           · simp [Act.eval]
           · simp [Act.eval]
           · exact (cellB (heap_new_drew rfl)).trans (by simp only [wv, ← HSUM.out, List.getElem?_toArray, List.getElem?_cons_zero, Option.some.injEq, Value.int.injEq, true_and, IntKind.wrap_u32']; omega)
           · omega
           · simp; omega
           intro v' w3 hown3 hgr3 hrow3 hkp3
           obtain ⟨g3, cap3, rfl, _⟩ := hrow3
           have k1 : w3.cell? ⟨g1, ((t : Int) - 16).toNat, none⟩ = some (.int .u32 x0.toNat) := hkp3 g1 (((t : Int) - 16).toNat) _ rfl HK0.out
           have k2 : w3.cell? ⟨g1, ((t : Int) - 7).toNat, none⟩ = some (.int .u32 x9.toNat) := hkp3 g1 (((t : Int) - 7).toNat) _ rfl HK9.out
           have HR := Lib.hid (show w3.ownsRow w.heap.size 22 1 _ (t + 1) nl ∧ Ext w w3 from ⟨by rw [HST.out]; exact hown3, ext_own ((HX4.out.alloc _).drew) (Nat.le_refl _) (owns_ext HO4.out (by repeat (first | exact Ext.refl _ | refine Ext.alloc ?_ _ | refine Ext.drew ?_))) hgr3⟩)
           clear hown3 hgr3 hkp3))
        all_goals
          go_wp2_with fail
          go_roundw
          case rel => exact ⟨t + 1, by omega, by go_num, HNL.out ▸ HR.out.1, HR.out.2⟩
          case measure => simp [intOf] <;> omega
    · have e64 : t = 64 := by omega
      have HC64 := Lib.hid (CellsAt.of_owns (xs := (wordsL r t).map wv) (by rw [List.length_map, wordsL_len]; exact ho))
      rw [e64] at HC64
      obtain ⟨a0, cap0, hv⟩ := owns_slice ho
      subst hv
      clear ho hx e64
      go_wp2_with fail
      go_ret
      exact ⟨_, rfl, HC64.out, HX.out⟩
end Go.Proofs.YtgojagdjlebnnaaDoor
