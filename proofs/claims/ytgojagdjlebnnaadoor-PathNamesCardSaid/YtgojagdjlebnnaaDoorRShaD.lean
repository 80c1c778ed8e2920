/- Contract of caravan/caravanref01: Padded. -/
import Derived.Test.YtgojagdjlebnnaaDoorRShaC
import Derived.Test.YtgojagdjlebnnaaDoorShaF
import Derived.Laws.AppendOwnNone
namespace Go.Proofs.YtgojagdjlebnnaaDoor
open Go.RowKit

/-- 'append(own, xs...)', xs any slice. -/
theorem append_many {P : Program} {ops : Array Oper} {rest : List Oper} {o : Oper} {a : Act} {Q : Exit → Act → World → Prop} {w : World} {t e : TypeId} {z : Value} {bytes : Nat} (el : Elem P t e z bytes)
    (base : Nat) (v : Value) (n : Nat) (xs : List Value) (hown : w.ownsRow base e 1 v n xs) (ad : Option Addr) (m c : Nat) (us : List Value) (s x : Operand)
    (hgd : o.guard = none) (ho : o.op = .call { callee := .builtin .append, args := #[s, x], argTypes := #[t, t] })
    (hs : a.eval s = v) (hx : a.eval x = .slice ad m c) (hl : us.length = m) (hz : ad = none → m = 0 ∧ c = 0) (hnew : 0 < m → ∃ g k, ad = some ⟨g, k, none⟩ ∧ ∀ (j : Nat) u, us[j]? = some u → w.cell? ⟨g, k + j, none⟩ = some u) (h1 : ∀ u ∈ us, u.oneCell' = true) (hn : n + m ≤ 68719476736) (hbase : base ≤ w.heap.size)
    (h : ∀ v' w', w'.ownsRow base e 1 v' (n + m) (xs ++ us) → w.grownBy w' v.ownBlock → wpList P ops Q rest (a.put o.dst v') w') : wpList P ops Q (o :: rest) a w := by
  obtain ⟨i, hi, hz0, hsz, hby⟩ := info_parts el.info
  have hf := el.few
  cases ad with
  | none =>
    obtain ⟨rfl, rfl⟩ := hz rfl
    have : us = [] := List.length_eq_zero_iff.1 hl
    subst this
    refine wpList_append_own_none hgd s x t ho base e i 1 el.ut hi v n xs hs hown hx ?_
    exact h v w (by simpa using hown) ⟨rfl, rfl, rfl, Nat.le_refl _, fun _ _ _ => rfl⟩
  | some A =>
    refine wpList_append_own w hgd s x t ho base e i z 1 bytes el.ut hi hz0 hsz hby el.one (by decide) v n xs hs hown A m c us hx (by omega) ?_ h1 ?_ ?_ hbase ?_
    · intro j u hj
      obtain ⟨g, k, e1, e2⟩ := hnew (by have := (List.getElem?_eq_some_iff.1 hj).1; omega)
      injection e1 with e1
      subst e1
      rw [show (⟨g, k, none⟩ : Addr).add j = ⟨g, k + j, none⟩ from by
        unfold Addr.add; split
        · rename_i h; subst h; rfl
        · rfl]
      exact e2 j u hj
    · unfold maxLen; omega
    · have : (n + m) * bytes ≤ (n + m) * 1024 := Nat.mul_le_mul_left _ hf
      omega
    · intro v' w' h2 h3 _
      exact h v' w' h2 h3
theorem byte_at (n c : Nat) (x : UInt8) (h : (be8 n)[7 - c]? = some x) (hc : c ≤ 7) : ((n : Int) / 2 ^ (8 * c)) % 256 = (x.toNat : Int) := by
  rw [be8_at n (7 - c) (by omega), show 56 - 8 * (7 - c) = 8 * c from by omega] at h
  injection h with h
  subst h
  unfold byteOf
  rw [UInt8.toNat_ofNat', show (2 : Int) ^ (8 * c) = ((2 ^ (8 * c) : Nat) : Int) from (Int.natCast_pow 2 (8 * c)).symm]
  generalize 2 ^ (8 * c) = d
  rw [← Int.natCast_ediv]
  omega

set_option maxHeartbeats 1000000 in
set_option maxRecDepth 100000 in
theorem rpadded_any (b : List UInt8) (v : Value) (w : World) (hv : BytesOff w.heap.size w v b) (hz : ∀ cap, v = .slice none 0 cap → cap = 0) (hm : b.length ≤ 1048576) :
    Calls Tryd.prog 77 #[v] w fun e w' => ∃ u, e = .returned u ∧ CellsAt w' u ((padded b).map bv) ∧ Ext w w' := by
  obtain ⟨ad, cap, rfl, hc1, hc2, hcell⟩ := hv
  obtain ⟨L, hL⟩ : ∃ L, L = b.length := ⟨_, rfl⟩
  have HL := Lib.hid hL.symm
  rw [← hL] at hm hc1 hcell hz ⊢
  clear hL
  have HZ0 := Lib.hid (show ad = none → L = 0 ∧ cap = 0 from fun e => by
    rcases Nat.eq_zero_or_pos L with h0 | h0
    · exact ⟨h0, hz cap (by rw [e, h0])⟩
    · obtain ⟨g, o, e1, _⟩ := hcell h0; rw [e] at e1; cases e1)
  have HCE := Lib.hid (show 0 < L → ∃ g k, ad = some ⟨g, k, none⟩ ∧ ∀ (j : Nat) u, (b.map bv)[j]? = some u → w.cell? ⟨g, k + j, none⟩ = some u from fun h => by
    obtain ⟨g, o, e1, _, _, e4⟩ := hcell h
    refine ⟨g, o, e1, fun j u hj => ?_⟩
    rw [List.getElem?_map, Option.map_eq_some_iff] at hj
    obtain ⟨x, hx, rfl⟩ := hj
    exact e4 j x hx)
  have HP := Lib.hid (show padded b = b ++ (128 :: List.replicate (zerosOf L) 0 ++ be8 (8 * L)) from by unfold padded padL; rw [HL.out])
  rw [HP.out]
  obtain ⟨Z, hZ⟩ : ∃ Z, Z = zerosOf L := ⟨_, rfl⟩
  have HZ2 := Lib.hid (show Z = (119 - L % 64) % 64 from hZ)
  have hZ64 : Z < 64 := by rw [hZ]; unfold zerosOf; omega
  rw [← hZ]
  clear hcell hz HP hZ
  have HBE := fun c x h hc => Lib.hid (byte_at (8 * L) c x h hc)
  have HBL := Lib.hid (show (be8 (8 * L)).length = 8 from rfl)
  obtain ⟨be, hbe⟩ : ∃ be, be = be8 (8 * L) := ⟨_, rfl⟩
  rw [← hbe] at HBE HBL ⊢
  clear hbe
  go_enter Tryd.func77, Tryd.ntmps77
  go_wp2_with (at_builtin; refine append_many elU8 w.heap.size _ _ _ (World.ownsRow_nil w w.heap.size 5 1) ad L cap (b.map bv) (.tmp 6) (.tmp 7) rfl rfl rfl rfl (by rw [List.length_map]; exact HL.out) HZ0.out HCE.out (by intro u hu; obtain ⟨x, _, rfl⟩ := List.mem_map.1 hu; rfl) (by omega) (Nat.le_refl _) ?_)
  intro v1 w1 hown1 hg1
  have HB1 := Lib.hid (ext_own (Ext.refl w) (Nat.le_refl _) (World.ownsRow_nil w w.heap.size 5 1) hg1)
  have HO1 := Lib.hid hown1
  clear hown1 hg1
  have hs1 := HB1.out.size
  go_wp2_with (at_builtin; refine append_one elU8 w.heap.size _ _ _ (HO1.out.alloc _) w1.heap.size (bv 128) (.tmp 9) (.tmp 10) rfl rfl rfl rfl ?c1 rfl (by omega) ?c2 ?_)
  case c1 => rw [cell_alloc_new rfl]; rfl
  case c2 => simp; omega
  intro v2 w2 hown2 hg2 _
  have HX2 := Lib.hid (ext_own (HB1.out.alloc _) (Nat.le_refl _) (HO1.out.alloc _) hg2)
  have HO2 := Lib.hid (show w2.ownsRow w.heap.size 5 1 v2 (L + 1 + 0) ((b ++ 128 :: List.replicate 0 0).map bv) from by simpa using hown2)
  clear hown2 hg2 HO1 HB1 hs1
  go_wp2_with fail
  go_loopw [3] (fun v wr => Hid (∃ j : Nat, j ≤ Z ∧ wr.ownsRow w.heap.size 5 1 v (L + 1 + j) ((b ++ 128 :: List.replicate j 0).map bv) ∧ Ext w wr)) (fun v _ => Z - (lenV v - (L + 1)))
  case atStart => exact ⟨0, by omega, HO2.out, HX2.out⟩
  case round =>
    obtain ⟨j, hj, ho, hx⟩ := hrel.out
    clear hrel HO2 HX2
    have HX := Lib.hid hx
    have HO := Lib.hid ho
    have hs := hx.size
    obtain ⟨a0, cap0, rfl⟩ := owns_slice ho
    clear ho hx
    by_cases hlt : j < Z
    · have hne : (((L + 1 + j : Nat) : Int) % 64 == 56) = false := by have := HZ2.out; simp; omega
      go_wp2_with (at_builtin; refine append_one elU8 w.heap.size _ _ _ (HO.out.alloc _) wr.heap.size (bv 0) (.tmp 16) (.tmp 17) rfl rfl rfl rfl ?c1 rfl (by omega) ?c2 ?_)
      case c1 => rw [cell_alloc_new rfl]; rfl
      case c2 => simp; omega
      intro v' w3 hown3 hg3 hv3
      have HX3 := Lib.hid (ext_own (HX.out.alloc _) (Nat.le_refl _) (HO.out.alloc _) hg3)
      go_wp2_with fail
      go_roundw
      case rel => exact ⟨j + 1, by omega, by rw [← Nat.add_assoc]; simpa [List.replicate_succ'] using hown3, HX3.out⟩
      case measure =>
        obtain ⟨g', cap', rfl, _⟩ := hv3
        simp [lenV]; omega
    · have hne : (((L : Int) + 1 + j) % 64 != 56) = false := by have := HZ2.out; simp; omega
      have HO := Lib.hid (show wr.ownsRow w.heap.size 5 1 (.slice a0 (L + 1 + j) cap0) (L + 1 + j + 0) ((b ++ (128 :: List.replicate Z 0 ++ be.take 0)).map bv) from by
        have e : j = Z := by omega
        subst e
        simpa using HO.out)
      obtain ⟨wa, rfl⟩ : ∃ x, x = wr := ⟨_, rfl⟩
      have hj64 : j < 64 := by omega
      go_wp2_with fail
      go_loopw [3, 5] (fun v bv' wr => Hid (∃ i k : Nat, i + k = 8 ∧ bv' = .int .i64 ((k : Int) - 1) ∧ wr.ownsRow w.heap.size 5 1 v (L + 1 + j + i) ((b ++ (128 :: List.replicate Z 0 ++ be.take i)).map bv) ∧ Ext w wr)) (fun _ bv' _ => (intOf bv' + 1).toNat)
      case atStart => exact ⟨0, 8, by omega, rfl, HO.out, HX.out⟩
      case round =>
        obtain ⟨i, k, hik, rfl, ho, hx⟩ := hrel.out
        clear hrel HO HX
        have HX := Lib.hid hx
        have HO := Lib.hid ho
        have hs := hx.size
        obtain ⟨a1, cap1, rfl⟩ := owns_slice ho
        match k, hik with
        | 0, hik =>
          have HC := Lib.hid (CellsAt.of_owns (xs := (b ++ (128 :: List.replicate Z 0 ++ be)).map bv) (v := .slice a1 (L + 1 + j + i) cap1) (w := wr) (base := w.heap.size) (e := 5) (by
            have e8 : be.take i = be := List.take_of_length_le (by rw [HBL.out]; omega)
            rw [e8] at ho
            have hl := ho.1
            rw [Nat.mul_one] at hl
            rw [hl]; exact ho))
          clear ho hx
          go_wp2_with fail
          go_ret
          exact ⟨_, rfl, by simpa using HC.out, HX.out⟩
        | c + 1, hik =>
          clear ho hx
          rw [show ((c + 1 : Nat) : Int) - 1 = (c : Int) from by omega]
          obtain ⟨x, hx⟩ : ∃ x, be[7 - c]? = some x := ⟨_, List.getElem?_eq_getElem (by rw [HBL.out]; omega)⟩
          have HBX := Lib.hid (show (L : Int) * 8 / 2 ^ (8 * c) % 256 = x.toNat from by rw [← (HBE c x hx (by omega)).out, Int.natCast_mul, Int.mul_comm]; rfl)
          have HST := Lib.hid (show be.take (i + 1) = be.take i ++ [x] from by rw [List.take_add_one, show i = 7 - c from by omega, hx]; rfl)
          clear hx
          go_wp2_with (at_builtin; refine append_one elU8 w.heap.size _ _ _ (HO.out.alloc _) wr.heap.size (.int .u8 ((L : Int) * 8 / 2 ^ (8 * c) % 256)) (.tmp 27) (.tmp 34) rfl rfl rfl rfl ?c1 rfl (by omega) ?c2 ?_)
          case c1 => rw [cell_alloc_new rfl]; rfl
          case c2 => simp; omega
          intro v' w3 hown3 hg3 _
          have HX3 := Lib.hid (ext_own (HX.out.alloc _) (Nat.le_refl _) (HO.out.alloc _) hg3)
          rw [HBX.out] at hown3
          have HO3 := Lib.hid hown3
          clear hown3 hg3
          go_wp2_with fail
          go_roundw
          case rel => exact ⟨i + 1, c, by omega, by go_num, by rw [HST.out, ← Nat.add_assoc]; simpa [bv] using HO3.out, HX3.out⟩
          case measure => simp [intOf]
end Go.Proofs.YtgojagdjlebnnaaDoor
