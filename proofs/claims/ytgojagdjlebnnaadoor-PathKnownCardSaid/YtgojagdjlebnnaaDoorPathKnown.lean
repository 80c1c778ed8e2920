/- PathKnown: the chapter's examples hold: the statement PathKnownCardSaid, with no condition of its own. -/
import Derived.Test.YtgojagdjlebnnaaDoorPathEnv
import Derived.Test.YtgojagdjlebnnaaDoorShaEnv
import Derived.Test.YtgojagdjlebnnaaDoorFitsL
import Derived.Test.YtgojagdjlebnnaaDoorPathH
import Derived.Test.YtgojagdjlebnnaaDoorPathF
import Derived.Test.YtgojagdjlebnnaaDoorPathE
namespace Go.Proofs.YtgojagdjlebnnaaDoor.lawPathKnown
open Go.ChangeShapes Go.WideShapes Go.ChangeAt Go.RowKit
open Go.ChangeMaps (open_string)

def nS (k : Nat) : ByteArray := ⟨(List.replicate k (110 : UInt8)).toArray⟩
theorem nS_size (k : Nat) : (nS k).size = k := by unfold nS; rw [size_mk]; simp
theorem nS_succ (k : Nat) : nS (k + 1) = nS k ++ ⟨#[110]⟩ := ba_ext (by rw [toList_append]; unfold nS; rw [toList_mk, toList_mk, show (⟨#[110]⟩ : ByteArray).toList = [110] from toList_mk _, List.replicate_succ'])
theorem facts : ∃ N : ByteArray, nS 48 = N ∧ N.size = 48 ∧ mayB N = true ∧ mayB (N ++ ⟨#[110]⟩) = false ∧ mayB (N ++ ⟨#[47]⟩ ++ N ++ ⟨#[47]⟩ ++ N.extract 0 13 ++ ⟨#[47]⟩ ++ N) = true ∧ mayB (N ++ ⟨#[47]⟩ ++ N ++ ⟨#[47]⟩ ++ N.extract 0 14 ++ ⟨#[47]⟩ ++ N) = false :=
  ⟨nS 48, rfl, nS_size 48, by decide +kernel, by decide +kernel, by decide +kernel, by decide +kernel⟩
theorem hex8_len (p : ByteArray) : (hex8 p).toList.length = 8 := by rw [len_toList, hex8_size]
theorem tk_list : (tempS ⟨#[100, 47, 120]⟩).toList = [100, 47, 126, 116, 126, 120] ++ (hex8 ⟨#[100, 47, 120]⟩).toList := by
  unfold tempS
  rw [besideS_toList, toList_append, toList_append]
  rw [show (parentS ⟨#[100, 47, 120]⟩) = ⟨#[100]⟩ from by decide +kernel, show (baseS ⟨#[100, 47, 120]⟩) = ⟨#[120]⟩ from by decide +kernel]
  rw [← List.append_assoc]
  congr 1
  decide +kernel
theorem temp_known : ∃ G : ByteArray, tempR ⟨#[100, 47, 120]⟩ = G ∧ G.size = 14 ∧ G.extract 0 6 = ⟨#[100, 47, 126, 116, 126, 120]⟩ := by
  refine ⟨_, rfl, ?_, ?_⟩
  · rw [← len_toList]
    unfold tempR
    rw [if_pos (by decide +kernel), tk_list]
    simp [hex8_len]
  · apply ba_ext
    unfold tempR
    rw [if_pos (by decide +kernel), toList_extract, tk_list]
    simp [Lib.toList_data]
theorem isTemp_ext (s : ByteArray) (w : World) (hs : s.size < 4611686018427387904) : Calls Tryd.prog 36 #[.string s] w fun e w' => e = .returned (.bool (isTempB s)) ∧ Ext w w' :=
  (isTemp_any s w hs).mono fun _ _ ⟨h, n, hw⟩ => ⟨h, hw ▸ (Ext.refl w).drewN n⟩
theorem make_zeros (w : World) (n : Nat) (hn : n ≤ 1048576) : (Instr.makeSlice 43 (.int .i64 n) (.int .i64 n)).run Tryd.prog w = .ok (.slice (some ⟨w.heap.size, 0, none⟩) n n) (w.alloc (.cells (Array.replicate n (.int .u8 0)) 5)) := by
  obtain ⟨i, hi, hz0, hz1, hz2⟩ := info_parts (show (Tryd.prog.info? 5).map (fun i => (i.zero, i.size, i.bytes)) = some (some (.int .u8 0), 1, 1) from by kernel_rfl)
  have h := run_make w 43 5 i (.int .u8 0) Tryd.underlying43 hi hz0 .i64 .i64 (n : Int) (n : Int) (by omega) (Int.le_refl _) (by rw [hz2]; omega) (by omega)
  rw [hz1, Int.toNat_natCast, Nat.mul_one] at h
  have e : madeCells (Value.int .u8 0).cells n = Array.replicate n (.int .u8 0) := by
    apply Array.ext
    · simp [madeCells]
    · intro j h1 h2
      simp [madeCells, Value.cells, Nat.mod_one]
  rw [e] at h
  exact h
theorem zeros_string (w : World) (n : Nat) : ∃ Z : ByteArray, Z.size = n ∧ (convert 43 9 (.slice (some ⟨w.heap.size, 0, none⟩) n n)).run Tryd.prog (w.alloc (.cells (Array.replicate n (.int .u8 0)) 5)) = .ok (.string Z) (w.alloc (.cells (Array.replicate n (.int .u8 0)) 5)) := by
  have h := run_convert_bytes_back (w.alloc (.cells (Array.replicate n (.int .u8 0)) 5)) 43 9 5 ⟨w.heap.size, 0, none⟩ n (List.replicate n (0 : UInt8)) Tryd.underlying43 (by kernel_rfl) Tryd.underlying9 (fun j hj => by
    rw [show (⟨w.heap.size, 0, none⟩ : Addr).add j = ⟨w.heap.size, j, none⟩ from by unfold Addr.add; split <;> simp_all, cellB (heap_alloc_new w _)]
    rw [List.length_replicate] at hj
    rw [List.getElem_replicate, Array.getElem?_replicate, if_pos hj]; rfl)
  rw [List.length_replicate] at h
  exact ⟨_, by rw [size_mk]; simp, h⟩
set_option maxRecDepth 100000 in
set_option maxHeartbeats 6400000 in
theorem walk (w : World) (E : Env w) (T : ShaTabs w) : Calls Tryd.prog 12 #[] w fun e w' => e = .returned (.bool true) ∧ Below w.heap.size w w' := by
  have HTT := Lib.hid T
  have W := fun w E => Lib.hid (works_any w E)
  obtain ⟨N, n0, n1, m1, m2, m3, m4⟩ := facts
  obtain ⟨G, g0, g1, g2⟩ := temp_known
  have MN1 := fun w E => Lib.hid (may_any N w (by omega) E)
  have MN2 := fun w E => Lib.hid (may_any (N ++ ⟨#[110]⟩) w (by simp [size_mk]; omega) E)
  have MN3 := fun w E => Lib.hid (may_any (N ++ ⟨#[47]⟩ ++ N ++ ⟨#[47]⟩ ++ N.extract 0 13 ++ ⟨#[47]⟩ ++ N) w (by simp [size_mk]; omega) E)
  have MN4 := fun w E => Lib.hid (may_any (N ++ ⟨#[47]⟩ ++ N ++ ⟨#[47]⟩ ++ N.extract 0 14 ++ ⟨#[47]⟩ ++ N) w (by simp [size_mk]; omega) E)
  rw [m1] at MN1
  rw [m2] at MN2
  rw [m3] at MN3
  rw [m4] at MN4
  have TK := fun w E T => Lib.hid (temp_any ⟨#[100, 47, 120]⟩ w (by decide) E T)
  rw [g0, show mayB ⟨#[100, 47, 120]⟩ = true from by decide +kernel] at TK
  have N0 := Lib.hid n0
  have hN : N.size = 48 := n1
  clear m1 m2 m3 m4 g0 n0 n1 T
  have P1 := fun w E => Lib.hid (parent_any ⟨#[97, 47, 98]⟩ w (by decide) E)
  rw [show parentR ⟨#[97, 47, 98]⟩ = ⟨#[97]⟩ from by decide +kernel] at P1
  rw [show mayB ⟨#[97, 47, 98]⟩ = true from by decide +kernel] at P1
  have P2 := fun w E => Lib.hid (parent_any ⟨#[97]⟩ w (by decide) E)
  rw [show parentR ⟨#[97]⟩ = ⟨#[]⟩ from by decide +kernel] at P2
  rw [show mayB ⟨#[97]⟩ = true from by decide +kernel] at P2
  have B1 := fun w E => Lib.hid (base_any ⟨#[97, 47, 98]⟩ w (by decide) E)
  rw [show baseR ⟨#[97, 47, 98]⟩ = ⟨#[98]⟩ from by decide +kernel] at B1
  have K1 := fun w => Lib.hid (cmp_any ⟨#[97]⟩ ⟨#[97, 47, 98]⟩ w (by decide) (by decide))
  rw [show cmpL (⟨#[97]⟩ : ByteArray).toList (⟨#[97, 47, 98]⟩ : ByteArray).toList = -1 from by decide +kernel] at K1
  have K2 := fun w => Lib.hid (cmp_any ⟨#[97, 47, 98]⟩ ⟨#[97, 32, 98]⟩ w (by decide) (by decide))
  rw [show cmpL (⟨#[97, 47, 98]⟩ : ByteArray).toList (⟨#[97, 32, 98]⟩ : ByteArray).toList = -1 from by decide +kernel] at K2
  have K3 := fun w => Lib.hid (cmp_any ⟨#[97, 47, 98]⟩ ⟨#[97, 45, 99]⟩ w (by decide) (by decide))
  rw [show cmpL (⟨#[97, 47, 98]⟩ : ByteArray).toList (⟨#[97, 45, 99]⟩ : ByteArray).toList = -1 from by decide +kernel] at K3
  have K4 := fun w => Lib.hid (cmp_any ⟨#[98]⟩ ⟨#[97, 47, 122]⟩ w (by decide) (by decide))
  rw [show cmpL (⟨#[98]⟩ : ByteArray).toList (⟨#[97, 47, 122]⟩ : ByteArray).toList = 1 from by decide +kernel] at K4
  have I1 := fun w E => Lib.hid (within_any ⟨#[97, 47, 98]⟩ ⟨#[97]⟩ w (by decide) (by decide) E)
  rw [show withinB ⟨#[97, 47, 98]⟩ ⟨#[97]⟩ = true from by decide +kernel] at I1
  have I2 := fun w E => Lib.hid (within_any ⟨#[97, 98]⟩ ⟨#[97]⟩ w (by decide) (by decide) E)
  rw [show withinB ⟨#[97, 98]⟩ ⟨#[97]⟩ = false from by decide +kernel] at I2
  have I3 := fun w E => Lib.hid (within_any ⟨#[97]⟩ ⟨#[97]⟩ w (by decide) (by decide) E)
  rw [show withinB ⟨#[97]⟩ ⟨#[97]⟩ = false from by decide +kernel] at I3
  have I4 := fun w E => Lib.hid (within_any ⟨#[97]⟩ ⟨#[]⟩ w (by decide) (by decide) E)
  rw [show withinB ⟨#[97]⟩ ⟨#[]⟩ = true from by decide +kernel] at I4
  have Y1 := fun w E => Lib.hid (conflict_yes ⟨#[46, 112, 114, 111, 102, 105, 108, 101]⟩ 4294967295 16 w (by decide) E (by decide +kernel) (by decide +kernel) (by decide +kernel))
  rw [show conflictS ⟨#[46, 112, 114, 111, 102, 105, 108, 101]⟩ 4294967295 16 = ⟨#[46, 112, 114, 111, 102, 105, 108, 101, 46, 115, 121, 110, 99, 45, 99, 111, 110, 102, 108, 105, 99, 116, 45, 52, 50, 57, 52, 57, 54, 55, 50, 57, 53, 45, 49, 54]⟩ from by decide +kernel] at Y1
  have O1 := fun w E => Lib.hid (conflict_no ⟨#[97]⟩ (-1) 1 w (by decide) E (by decide +kernel))
  have O2 := fun w E => Lib.hid (conflict_no ⟨#[97]⟩ 4294967296 1 w (by decide) E (by decide +kernel))
  have O3 := fun w E => Lib.hid (conflict_no ⟨#[97]⟩ 1 17 w (by decide) E (by decide +kernel))
  have U1 := fun w => Lib.hid (isTemp_ext ⟨#[97, 47, 126, 116, 126]⟩ w (by decide))
  rw [show isTempB ⟨#[97, 47, 126, 116, 126]⟩ = true from by decide +kernel] at U1
  have U2 := fun w => Lib.hid (isTemp_ext ⟨#[126, 116, 126, 47, 97]⟩ w (by decide))
  rw [show isTempB ⟨#[126, 116, 126, 47, 97]⟩ = false from by decide +kernel] at U2
  have U3 := fun w E => Lib.hid (isConflict_any ⟨#[120, 46, 115, 121, 110, 99, 45, 99, 111, 110, 102, 108, 105, 99, 116, 45, 48, 48, 48, 48, 48, 48, 48, 48, 55, 45, 48, 51]⟩ w (by decide) E)
  rw [show confL (baseS ⟨#[120, 46, 115, 121, 110, 99, 45, 99, 111, 110, 102, 108, 105, 99, 116, 45, 48, 48, 48, 48, 48, 48, 48, 48, 55, 45, 48, 51]⟩).toList = false from by decide +kernel] at U3
  go_enter Tryd.func12, Tryd.ntmps12
  go_wp2_with fail
  have HL2 := Lib.hid (heap_alloc_new w (.cells #[.string ⟨#[97]⟩, .string ⟨#[97, 47, 98, 32, 99]⟩, .string ⟨#[97, 47, 98, 47, 99, 47, 100, 47, 101, 47, 102]⟩, .string ⟨#[46, 120]⟩, .string ⟨#[46, 46, 46]⟩, .string ⟨#[97, 47, 126, 116, 126, 98]⟩] 9 (0, 0)))
  go_loopw [2] (fun iv wr => Hid (∃ k : Nat, k ≤ 6 ∧ iv = .int .i64 k ∧ Ext w wr ∧ wr.heap[w.heap.size]? = some (.cells #[.string ⟨#[97]⟩, .string ⟨#[97, 47, 98, 32, 99]⟩, .string ⟨#[97, 47, 98, 47, 99, 47, 100, 47, 101, 47, 102]⟩, .string ⟨#[46, 120]⟩, .string ⟨#[46, 46, 46]⟩, .string ⟨#[97, 47, 126, 116, 126, 98]⟩] 9 (0, 0)))) (fun iv _ => 6 - (intOf iv).toNat)
  case atStart => exact ⟨0, by omega, rfl, (Ext.refl w).alloc _, HL2.out⟩
  case round =>
    obtain ⟨k2, hk2, rfl, hx2, hb2⟩ := hrel.out
    clear hrel HL2
    have HX2 := Lib.hid hx2
    have HB2 := Lib.hid hb2
    by_cases e0 : k2 = 0
    · subst e0
      have c1 : wr.cell? ⟨w.heap.size, 0, none⟩ = some (.string ⟨#[97]⟩) := cellB hb2
      have HM := Lib.hid (may_any ⟨#[97]⟩ wr (by decide) (E.ext hx2))
      rw [show mayB ⟨#[97]⟩ = true from by decide +kernel] at HM
      clear hb2 hx2
      go_wp2_with fail
      refine HM.out.mono ?_
      rintro e v1 ⟨rfl, z1⟩
      have HR := Lib.hid (⟨HX2.out.trans z1, (z1.block (ltB HB2.out)).trans HB2.out⟩ : Ext w v1 ∧ _)
      clear z1
      go_wp2_with fail
      go_roundw
      case rel => exact ⟨1, by omega, rfl, HR.out.1, HR.out.2⟩
      case measure => simp [intOf]
    by_cases e1 : k2 = 1
    · subst e1
      have c1 : wr.cell? ⟨w.heap.size, 1, none⟩ = some (.string ⟨#[97, 47, 98, 32, 99]⟩) := cellB hb2
      have HM := Lib.hid (may_any ⟨#[97, 47, 98, 32, 99]⟩ wr (by decide) (E.ext hx2))
      rw [show mayB ⟨#[97, 47, 98, 32, 99]⟩ = true from by decide +kernel] at HM
      clear hb2 hx2
      go_wp2_with fail
      refine HM.out.mono ?_
      rintro e v1 ⟨rfl, z1⟩
      have HR := Lib.hid (⟨HX2.out.trans z1, (z1.block (ltB HB2.out)).trans HB2.out⟩ : Ext w v1 ∧ _)
      clear z1
      go_wp2_with fail
      go_roundw
      case rel => exact ⟨2, by omega, rfl, HR.out.1, HR.out.2⟩
      case measure => simp [intOf]
    by_cases e2 : k2 = 2
    · subst e2
      have c1 : wr.cell? ⟨w.heap.size, 2, none⟩ = some (.string ⟨#[97, 47, 98, 47, 99, 47, 100, 47, 101, 47, 102]⟩) := cellB hb2
      have HM := Lib.hid (may_any ⟨#[97, 47, 98, 47, 99, 47, 100, 47, 101, 47, 102]⟩ wr (by decide) (E.ext hx2))
      rw [show mayB ⟨#[97, 47, 98, 47, 99, 47, 100, 47, 101, 47, 102]⟩ = true from by decide +kernel] at HM
      clear hb2 hx2
      go_wp2_with fail
      refine HM.out.mono ?_
      rintro e v1 ⟨rfl, z1⟩
      have HR := Lib.hid (⟨HX2.out.trans z1, (z1.block (ltB HB2.out)).trans HB2.out⟩ : Ext w v1 ∧ _)
      clear z1
      go_wp2_with fail
      go_roundw
      case rel => exact ⟨3, by omega, rfl, HR.out.1, HR.out.2⟩
      case measure => simp [intOf]
    by_cases e3 : k2 = 3
    · subst e3
      have c1 : wr.cell? ⟨w.heap.size, 3, none⟩ = some (.string ⟨#[46, 120]⟩) := cellB hb2
      have HM := Lib.hid (may_any ⟨#[46, 120]⟩ wr (by decide) (E.ext hx2))
      rw [show mayB ⟨#[46, 120]⟩ = true from by decide +kernel] at HM
      clear hb2 hx2
      go_wp2_with fail
      refine HM.out.mono ?_
      rintro e v1 ⟨rfl, z1⟩
      have HR := Lib.hid (⟨HX2.out.trans z1, (z1.block (ltB HB2.out)).trans HB2.out⟩ : Ext w v1 ∧ _)
      clear z1
      go_wp2_with fail
      go_roundw
      case rel => exact ⟨4, by omega, rfl, HR.out.1, HR.out.2⟩
      case measure => simp [intOf]
    by_cases e4 : k2 = 4
    · subst e4
      have c1 : wr.cell? ⟨w.heap.size, 4, none⟩ = some (.string ⟨#[46, 46, 46]⟩) := cellB hb2
      have HM := Lib.hid (may_any ⟨#[46, 46, 46]⟩ wr (by decide) (E.ext hx2))
      rw [show mayB ⟨#[46, 46, 46]⟩ = true from by decide +kernel] at HM
      clear hb2 hx2
      go_wp2_with fail
      refine HM.out.mono ?_
      rintro e v1 ⟨rfl, z1⟩
      have HR := Lib.hid (⟨HX2.out.trans z1, (z1.block (ltB HB2.out)).trans HB2.out⟩ : Ext w v1 ∧ _)
      clear z1
      go_wp2_with fail
      go_roundw
      case rel => exact ⟨5, by omega, rfl, HR.out.1, HR.out.2⟩
      case measure => simp [intOf]
    by_cases e5 : k2 = 5
    · subst e5
      have c1 : wr.cell? ⟨w.heap.size, 5, none⟩ = some (.string ⟨#[97, 47, 126, 116, 126, 98]⟩) := cellB hb2
      have HM := Lib.hid (may_any ⟨#[97, 47, 126, 116, 126, 98]⟩ wr (by decide) (E.ext hx2))
      rw [show mayB ⟨#[97, 47, 126, 116, 126, 98]⟩ = true from by decide +kernel] at HM
      clear hb2 hx2
      go_wp2_with fail
      refine HM.out.mono ?_
      rintro e v1 ⟨rfl, z1⟩
      have HR := Lib.hid (⟨HX2.out.trans z1, (z1.block (ltB HB2.out)).trans HB2.out⟩ : Ext w v1 ∧ _)
      clear z1
      go_wp2_with fail
      go_roundw
      case rel => exact ⟨6, by omega, rfl, HR.out.1, HR.out.2⟩
      case measure => simp [intOf]
    have hge2 : 6 ≤ k2 := by omega
    clear e0 e1 e2 e3 e4 e5
    clear hb2 HB2 HX2
    obtain ⟨wa, rfl⟩ : ∃ x, x = wr := ⟨_, rfl⟩
    have XA := hx2
    clear hx2
    go_wp2_with fail
    have HL4 := Lib.hid (heap_alloc_new wa (.cells #[.string ⟨#[]⟩, .string ⟨#[47, 97]⟩, .string ⟨#[97, 47, 47, 98]⟩, .string ⟨#[97, 47, 46]⟩, .string ⟨#[97, 47, 98, 47, 99, 47, 100, 47, 101, 47, 102, 47, 103]⟩, .string ⟨#[97, 47]⟩, .string ⟨#[46, 46]⟩, .string ⟨#[97, 0]⟩, .string ⟨#[97, 127]⟩, .string ⟨#[97, 10]⟩, .string ⟨#[47]⟩] 9 (0, 0)))
    go_loopw [4] (fun iv wr => Hid (∃ k : Nat, k ≤ 11 ∧ iv = .int .i64 k ∧ Ext wa wr ∧ wr.heap[wa.heap.size]? = some (.cells #[.string ⟨#[]⟩, .string ⟨#[47, 97]⟩, .string ⟨#[97, 47, 47, 98]⟩, .string ⟨#[97, 47, 46]⟩, .string ⟨#[97, 47, 98, 47, 99, 47, 100, 47, 101, 47, 102, 47, 103]⟩, .string ⟨#[97, 47]⟩, .string ⟨#[46, 46]⟩, .string ⟨#[97, 0]⟩, .string ⟨#[97, 127]⟩, .string ⟨#[97, 10]⟩, .string ⟨#[47]⟩] 9 (0, 0)))) (fun iv _ => 11 - (intOf iv).toNat)
    case atStart => exact ⟨0, by omega, rfl, (Ext.refl wa).alloc _, HL4.out⟩
    case round =>
      obtain ⟨k4, hk4, rfl, hx4, hb4⟩ := hrel.out
      clear hrel HL4
      have HX4 := Lib.hid hx4
      have HB4 := Lib.hid hb4
      have X4a := XA.trans hx4
      by_cases e0 : k4 = 0
      · subst e0
        have c1 : wr.cell? ⟨wa.heap.size, 0, none⟩ = some (.string ⟨#[]⟩) := cellB hb4
        have HM := Lib.hid (may_any ⟨#[]⟩ wr (by decide) (E.ext X4a))
        rw [show mayB ⟨#[]⟩ = false from by decide +kernel] at HM
        clear hb4 hx4 X4a
        go_wp2_with fail
        refine HM.out.mono ?_
        rintro e v1 ⟨rfl, z1⟩
        have HR := Lib.hid (⟨HX4.out.trans z1, (z1.block (ltB HB4.out)).trans HB4.out⟩ : Ext wa v1 ∧ _)
        clear z1
        go_wp2_with fail
        go_roundw
        case rel => exact ⟨1, by omega, rfl, HR.out.1, HR.out.2⟩
        case measure => simp [intOf]
      by_cases e1 : k4 = 1
      · subst e1
        have c1 : wr.cell? ⟨wa.heap.size, 1, none⟩ = some (.string ⟨#[47, 97]⟩) := cellB hb4
        have HM := Lib.hid (may_any ⟨#[47, 97]⟩ wr (by decide) (E.ext X4a))
        rw [show mayB ⟨#[47, 97]⟩ = false from by decide +kernel] at HM
        clear hb4 hx4 X4a
        go_wp2_with fail
        refine HM.out.mono ?_
        rintro e v1 ⟨rfl, z1⟩
        have HR := Lib.hid (⟨HX4.out.trans z1, (z1.block (ltB HB4.out)).trans HB4.out⟩ : Ext wa v1 ∧ _)
        clear z1
        go_wp2_with fail
        go_roundw
        case rel => exact ⟨2, by omega, rfl, HR.out.1, HR.out.2⟩
        case measure => simp [intOf]
      by_cases e2 : k4 = 2
      · subst e2
        have c1 : wr.cell? ⟨wa.heap.size, 2, none⟩ = some (.string ⟨#[97, 47, 47, 98]⟩) := cellB hb4
        have HM := Lib.hid (may_any ⟨#[97, 47, 47, 98]⟩ wr (by decide) (E.ext X4a))
        rw [show mayB ⟨#[97, 47, 47, 98]⟩ = false from by decide +kernel] at HM
        clear hb4 hx4 X4a
        go_wp2_with fail
        refine HM.out.mono ?_
        rintro e v1 ⟨rfl, z1⟩
        have HR := Lib.hid (⟨HX4.out.trans z1, (z1.block (ltB HB4.out)).trans HB4.out⟩ : Ext wa v1 ∧ _)
        clear z1
        go_wp2_with fail
        go_roundw
        case rel => exact ⟨3, by omega, rfl, HR.out.1, HR.out.2⟩
        case measure => simp [intOf]
      by_cases e3 : k4 = 3
      · subst e3
        have c1 : wr.cell? ⟨wa.heap.size, 3, none⟩ = some (.string ⟨#[97, 47, 46]⟩) := cellB hb4
        have HM := Lib.hid (may_any ⟨#[97, 47, 46]⟩ wr (by decide) (E.ext X4a))
        rw [show mayB ⟨#[97, 47, 46]⟩ = false from by decide +kernel] at HM
        clear hb4 hx4 X4a
        go_wp2_with fail
        refine HM.out.mono ?_
        rintro e v1 ⟨rfl, z1⟩
        have HR := Lib.hid (⟨HX4.out.trans z1, (z1.block (ltB HB4.out)).trans HB4.out⟩ : Ext wa v1 ∧ _)
        clear z1
        go_wp2_with fail
        go_roundw
        case rel => exact ⟨4, by omega, rfl, HR.out.1, HR.out.2⟩
        case measure => simp [intOf]
      by_cases e4 : k4 = 4
      · subst e4
        have c1 : wr.cell? ⟨wa.heap.size, 4, none⟩ = some (.string ⟨#[97, 47, 98, 47, 99, 47, 100, 47, 101, 47, 102, 47, 103]⟩) := cellB hb4
        have HM := Lib.hid (may_any ⟨#[97, 47, 98, 47, 99, 47, 100, 47, 101, 47, 102, 47, 103]⟩ wr (by decide) (E.ext X4a))
        rw [show mayB ⟨#[97, 47, 98, 47, 99, 47, 100, 47, 101, 47, 102, 47, 103]⟩ = false from by decide +kernel] at HM
        clear hb4 hx4 X4a
        go_wp2_with fail
        refine HM.out.mono ?_
        rintro e v1 ⟨rfl, z1⟩
        have HR := Lib.hid (⟨HX4.out.trans z1, (z1.block (ltB HB4.out)).trans HB4.out⟩ : Ext wa v1 ∧ _)
        clear z1
        go_wp2_with fail
        go_roundw
        case rel => exact ⟨5, by omega, rfl, HR.out.1, HR.out.2⟩
        case measure => simp [intOf]
      by_cases e5 : k4 = 5
      · subst e5
        have c1 : wr.cell? ⟨wa.heap.size, 5, none⟩ = some (.string ⟨#[97, 47]⟩) := cellB hb4
        have HM := Lib.hid (may_any ⟨#[97, 47]⟩ wr (by decide) (E.ext X4a))
        rw [show mayB ⟨#[97, 47]⟩ = false from by decide +kernel] at HM
        clear hb4 hx4 X4a
        go_wp2_with fail
        refine HM.out.mono ?_
        rintro e v1 ⟨rfl, z1⟩
        have HR := Lib.hid (⟨HX4.out.trans z1, (z1.block (ltB HB4.out)).trans HB4.out⟩ : Ext wa v1 ∧ _)
        clear z1
        go_wp2_with fail
        go_roundw
        case rel => exact ⟨6, by omega, rfl, HR.out.1, HR.out.2⟩
        case measure => simp [intOf]
      by_cases e6 : k4 = 6
      · subst e6
        have c1 : wr.cell? ⟨wa.heap.size, 6, none⟩ = some (.string ⟨#[46, 46]⟩) := cellB hb4
        have HM := Lib.hid (may_any ⟨#[46, 46]⟩ wr (by decide) (E.ext X4a))
        rw [show mayB ⟨#[46, 46]⟩ = false from by decide +kernel] at HM
        clear hb4 hx4 X4a
        go_wp2_with fail
        refine HM.out.mono ?_
        rintro e v1 ⟨rfl, z1⟩
        have HR := Lib.hid (⟨HX4.out.trans z1, (z1.block (ltB HB4.out)).trans HB4.out⟩ : Ext wa v1 ∧ _)
        clear z1
        go_wp2_with fail
        go_roundw
        case rel => exact ⟨7, by omega, rfl, HR.out.1, HR.out.2⟩
        case measure => simp [intOf]
      by_cases e7 : k4 = 7
      · subst e7
        have c1 : wr.cell? ⟨wa.heap.size, 7, none⟩ = some (.string ⟨#[97, 0]⟩) := cellB hb4
        have HM := Lib.hid (may_any ⟨#[97, 0]⟩ wr (by decide) (E.ext X4a))
        rw [show mayB ⟨#[97, 0]⟩ = false from by decide +kernel] at HM
        clear hb4 hx4 X4a
        go_wp2_with fail
        refine HM.out.mono ?_
        rintro e v1 ⟨rfl, z1⟩
        have HR := Lib.hid (⟨HX4.out.trans z1, (z1.block (ltB HB4.out)).trans HB4.out⟩ : Ext wa v1 ∧ _)
        clear z1
        go_wp2_with fail
        go_roundw
        case rel => exact ⟨8, by omega, rfl, HR.out.1, HR.out.2⟩
        case measure => simp [intOf]
      by_cases e8 : k4 = 8
      · subst e8
        have c1 : wr.cell? ⟨wa.heap.size, 8, none⟩ = some (.string ⟨#[97, 127]⟩) := cellB hb4
        have HM := Lib.hid (may_any ⟨#[97, 127]⟩ wr (by decide) (E.ext X4a))
        rw [show mayB ⟨#[97, 127]⟩ = false from by decide +kernel] at HM
        clear hb4 hx4 X4a
        go_wp2_with fail
        refine HM.out.mono ?_
        rintro e v1 ⟨rfl, z1⟩
        have HR := Lib.hid (⟨HX4.out.trans z1, (z1.block (ltB HB4.out)).trans HB4.out⟩ : Ext wa v1 ∧ _)
        clear z1
        go_wp2_with fail
        go_roundw
        case rel => exact ⟨9, by omega, rfl, HR.out.1, HR.out.2⟩
        case measure => simp [intOf]
      by_cases e9 : k4 = 9
      · subst e9
        have c1 : wr.cell? ⟨wa.heap.size, 9, none⟩ = some (.string ⟨#[97, 10]⟩) := cellB hb4
        have HM := Lib.hid (may_any ⟨#[97, 10]⟩ wr (by decide) (E.ext X4a))
        rw [show mayB ⟨#[97, 10]⟩ = false from by decide +kernel] at HM
        clear hb4 hx4 X4a
        go_wp2_with fail
        refine HM.out.mono ?_
        rintro e v1 ⟨rfl, z1⟩
        have HR := Lib.hid (⟨HX4.out.trans z1, (z1.block (ltB HB4.out)).trans HB4.out⟩ : Ext wa v1 ∧ _)
        clear z1
        go_wp2_with fail
        go_roundw
        case rel => exact ⟨10, by omega, rfl, HR.out.1, HR.out.2⟩
        case measure => simp [intOf]
      by_cases e10 : k4 = 10
      · subst e10
        have c1 : wr.cell? ⟨wa.heap.size, 10, none⟩ = some (.string ⟨#[47]⟩) := cellB hb4
        have HM := Lib.hid (may_any ⟨#[47]⟩ wr (by decide) (E.ext X4a))
        rw [show mayB ⟨#[47]⟩ = false from by decide +kernel] at HM
        clear hb4 hx4 X4a
        go_wp2_with fail
        refine HM.out.mono ?_
        rintro e v1 ⟨rfl, z1⟩
        have HR := Lib.hid (⟨HX4.out.trans z1, (z1.block (ltB HB4.out)).trans HB4.out⟩ : Ext wa v1 ∧ _)
        clear z1
        go_wp2_with fail
        go_roundw
        case rel => exact ⟨11, by omega, rfl, HR.out.1, HR.out.2⟩
        case measure => simp [intOf]
      have hge4 : 11 ≤ k4 := by omega
      clear e0 e1 e2 e3 e4 e5 e6 e7 e8 e9 e10
      clear hb4 HB4 HX4
      obtain ⟨wb, rfl⟩ : ∃ x, x = wr := ⟨_, rfl⟩
      have XB := X4a
      clear hx4 X4a
      obtain ⟨Z, hz, hcv⟩ := zeros_string wb 48
      have hmk := make_zeros wb 48 (by decide)
      rw [show ((48 : Nat) : Int) = 48 from rfl] at hmk
      go_wp2_with fail
      clear hcv hmk
      go_loopw [6, 7] (fun sv iv wr => Hid (∃ k : Nat, k ≤ 48 ∧ iv = .int .i64 k ∧ sv = .string (nS k) ∧ Ext wb wr)) (fun _ iv _ => 48 - (intOf iv).toNat)
      case atStart => exact ⟨0, by omega, rfl, rfl, (Ext.refl wb).alloc _⟩
      case round =>
        obtain ⟨k, hk, rfl, rfl, hx⟩ := hrel.out
        clear hrel
        have HX := Lib.hid hx
        by_cases h48 : k < 48
        · have hs := nS_size k
          have HS := Lib.hid (nS_succ k)
          generalize nS k = s at *
          clear hx
          have hs2 : s.size < 48 := by omega
          clear hs
          go_wp2_with fail
          go_roundw
          case rel => exact ⟨k + 1, by omega, by go_num, by rw [HS.out], HX.out⟩
          case measure => simp [intOf] <;> omega
        · have e48 : k = 48 := by omega
          subst e48
          rw [N0.out]
          have X5 := XB.trans hx
          clear hx XB XA HX
          go_wp2_with fail
          refine (P1 _ (E.ext X5)).out.mono ?_
          rintro e wr1 ⟨rfl, xr1⟩
          have Xr1 := X5.trans xr1
          go_wp2_with fail
          refine (P2 _ (E.ext Xr1)).out.mono ?_
          rintro e wr2 ⟨rfl, xr2⟩
          have Xr2 := Xr1.trans xr2
          go_wp2_with fail
          refine (MN1 _ (E.ext Xr2)).out.mono ?_
          rintro e wr3 ⟨rfl, xr3⟩
          have Xr3 := Xr2.trans xr3
          go_wp2_with fail
          refine (MN2 _ (E.ext Xr3)).out.mono ?_
          rintro e wr4 ⟨rfl, xr4⟩
          have Xr4 := Xr3.trans xr4
          go_wp2_with fail
          refine (MN3 _ (E.ext Xr4)).out.mono ?_
          rintro e wr5 ⟨rfl, xr5⟩
          have Xr5 := Xr4.trans xr5
          go_wp2_with fail
          refine (MN4 _ (E.ext Xr5)).out.mono ?_
          rintro e wr6 ⟨rfl, xr6⟩
          have Xr6 := Xr5.trans xr6
          go_wp2_with fail
          refine (B1 _ (E.ext Xr6)).out.mono ?_
          rintro e wr7 ⟨rfl, xr7⟩
          have Xr7 := Xr6.trans xr7
          go_wp2_with fail
          refine (K1 _).out.mono ?_
          rintro e wr8 ⟨rfl, xr8⟩
          have Xr8 := Xr7.trans xr8
          go_wp2_with fail
          refine (K2 _).out.mono ?_
          rintro e wr9 ⟨rfl, xr9⟩
          have Xr9 := Xr8.trans xr9
          go_wp2_with fail
          refine (K3 _).out.mono ?_
          rintro e wr10 ⟨rfl, xr10⟩
          have Xr10 := Xr9.trans xr10
          go_wp2_with fail
          refine (K4 _).out.mono ?_
          rintro e wr11 ⟨rfl, xr11⟩
          have Xr11 := Xr10.trans xr11
          go_wp2_with fail
          refine (I1 _ (E.ext Xr11)).out.mono ?_
          rintro e wr12 ⟨rfl, xr12⟩
          have Xr12 := Xr11.trans xr12
          go_wp2_with fail
          refine (I2 _ (E.ext Xr12)).out.mono ?_
          rintro e wr13 ⟨rfl, xr13⟩
          have Xr13 := Xr12.trans xr13
          go_wp2_with fail
          refine (I3 _ (E.ext Xr13)).out.mono ?_
          rintro e wr14 ⟨rfl, xr14⟩
          have Xr14 := Xr13.trans xr14
          go_wp2_with fail
          refine (I4 _ (E.ext Xr14)).out.mono ?_
          rintro e wr15 ⟨rfl, xr15⟩
          have Xr15 := Xr14.trans xr15
          go_wp2_with fail
          refine (Y1 _ (E.ext Xr15)).out.mono ?_
          rintro e wr16 ⟨rfl, xr16⟩
          have Xr16 := Xr15.trans xr16
          have XE := Xr16
          go_wp2_with fail
          refine (TK _ (E.ext XE) (HTT.out.ext XE)).out.mono ?_
          rintro e wt ⟨rfl, xt⟩
          have XT := XE.trans xt
          go_wp2_with fail
          refine (O1 _ (E.ext XT)).out.mono ?_
          rintro e wr1 ⟨rfl, xr1⟩
          have Xr1 := XT.trans xr1
          go_wp2_with fail
          refine (O2 _ (E.ext Xr1)).out.mono ?_
          rintro e wr2 ⟨rfl, xr2⟩
          have Xr2 := Xr1.trans xr2
          go_wp2_with fail
          refine (O3 _ (E.ext Xr2)).out.mono ?_
          rintro e wr3 ⟨rfl, xr3⟩
          have Xr3 := Xr2.trans xr3
          go_wp2_with fail
          refine (U1 _).out.mono ?_
          rintro e wr4 ⟨rfl, xr4⟩
          have Xr4 := Xr3.trans xr4
          go_wp2_with fail
          refine (U2 _).out.mono ?_
          rintro e wr5 ⟨rfl, xr5⟩
          have Xr5 := Xr4.trans xr5
          go_wp2_with fail
          refine (U3 _ (E.ext Xr5)).out.mono ?_
          rintro e wr6 ⟨rfl, xr6⟩
          have Xr6 := Xr5.trans xr6
          go_wp2_with fail
          refine (W _ (E.ext Xr6)).out.mono ?_
          rintro e wr7 ⟨rfl, xr7⟩
          have Xr7 := Xr6.trans xr7
          have XE := Xr7
          go_wp2_with fail
          go_ret
          exact ⟨rfl, Xr7⟩

-- BEGUN
set_option maxRecDepth 100000 in
theorem begun {H : Type} {enc : TypeId × Value → H} (W : World) (args : Array Value) (ds : List (DataW H)) (p : List MemPlace) (st : Start enc Rows.pathKnownRow.laid Tryd.f12 W args ds p) :
    Calls Tryd.prog 12 args W fun e W' => e = .returned (.bool true) ∧ Below W.heap.size W W' := by
  obtain ⟨⟨base, hval⟩, hA, hfit, hl, hsh⟩ := st
  rw [Tryd.params12] at hA hval hfit
  have hn : args = #[] := by
    cases h : args.toList with
    | nil => simpa using h
    | cons a l => rw [h] at hA; cases ds <;> simp [DataW.TrodAll] at hA
  subst hn
  exact walk W (env_of hl hsh (pow10_mem 2 rfl)) (sha_of hl 4 5 rfl rfl)

set_option maxRecDepth 100000 in
theorem said : Rows.PathKnownSaid :=
  OpenClaim.holds_of_wide 12 Tryd.f12 rfl rfl rfl rfl rfl rfl rfl ⟨rfl, rfl, rfl, rfl, rfl⟩ rfl rfl rfl rfl rfl (by kernel_rfl) Tryd.func12 (by kernel_rfl)
    (of_decide_eq_true (by kernel_rfl)) (by unfold Func.isWrapper; first | (rw [if_pos (by decide +kernel)]; kernel_rfl) | (rw [if_neg (by decide +kernel)]; exact ⟨rfl, rfl⟩))
    (fun os started H enc _ => lifted Rows.pathKnownRow.laid (by kernel_rfl) 12 Tryd.f12 Tryd.func12 Rows.pathKnownSpec rfl (by kernel_rfl) (by kernel_rfl)
      (by rw [Tryd.params12]
          have hall : ([].all fun t => Tryd.prog.readableRec t && decide (t < Tryd.prog.types.size)) = true := by kernel_rfl
          intro t ht
          have := List.all_eq_true.1 hall t ht
          simpa using this)
      (by intro H ts ds h hl; rw [Tryd.params12] at h; subst h
          match ds, hl with
          | [], _ => rfl)
      Rows.pathKnownRow.domain os started H enc #[] (by kernel_rfl) (by kernel_rfl) (by kernel_rfl)
      (World.shaped_of_ZipB (by kernel_rfl) (by kernel_rfl)) (laidMet_laidAll _ (by kernel_rfl) (by kernel_rfl))
      begun)

theorem card : Rows.PathKnownCardSaid :=
  Claim7.holds_tied_plain_at .later [] Rows.pathKnownCard.laidKinds true Rows.pathKnownCard.stood.harness false said (fun _ h => by cases h) (by kernel_rfl) (fun _ h => by cases h) pathKnown_row_tie rfl ⟨rfl, rfl⟩ (by kernel_rfl) rfl
    (fun f fn hf hfn => by
      obtain rfl : f = 12 := Option.some.inj ((show Tryd.prog.funcNamed Rows.pathKnownRow.func = some 12 by kernel_rfl).symm.trans hf) |>.symm
      obtain rfl : fn = Tryd.f12 := (Option.some.inj (Tryd.func12.symm.trans hfn)).symm
      exact ⟨by kernel_rfl, fun j t ht => by
        rw [Tryd.params12] at ht
        have hm : t ∈ [] := by simpa using Array.mem_of_getElem? ht
        have hall : ([].all fun u => !Tryd.prog.wantsStandIn u) = true := by kernel_rfl
        exact (show Tryd.prog.wantsStandIn t = false by simpa using List.all_eq_true.1 hall t hm)⟩)
    (by kernel_rfl)
#print axioms card
end Go.Proofs.YtgojagdjlebnnaaDoor.lawPathKnown
