/- caravanlaw09's data: contract. caravanlaw09's large: contract. caravanlaw09's do: contract. -/
import Derived.Test.YtldppmjjgljinaaGreatDoorActD
import Derived.Test.YtldppmjjgljinaaGreatDoorStepK
import Derived.Test.YtldppmjjgljinaaGreatDoorBlk
import Derived.Test.YtldppmjjgljinaaGreatDoorDiskM
import Derived.Test.YtldppmjjgljinaaGreatDoorDiskF
import Derived.Test.YtldppmjjgljinaaGreatDoorActP
import Derived.Deep.RegionHeldLaw
namespace Go.Proofs.YtldppmjjgljinaaGreatDoor
open Go.RowKit

theorem i64_and15 (n : Int) : bits .and .i64 n 15 = n % 16 := by
  have h15 : (BitVec.ofInt 64 15).toNat = 2 ^ 4 - 1 := by decide
  have key : (BitVec.ofInt 64 n &&& BitVec.ofInt 64 15).toNat = (n % ((2 ^ 64 : Nat) : Int)).toNat % 2 ^ 4 := by
    rw [BitVec.toNat_and, BitVec.toNat_ofInt, h15, Nat.and_two_pow_sub_one_eq_mod]
  show IntKind.i64.wrap ((BitVec.ofInt 64 n &&& BitVec.ofInt 64 15).toNat : Nat) = n % 16
  rw [key, IntKind.wrap_i64]
  omega

def actV (x : ActR) (pv : Value) : Value := .agg #[.int .i64 x.kind, .string x.p, .string x.q, .string x.text, .int .i64 x.long, .int .i64 x.time, pv]
theorem el_byte : Elem Tryz.prog 22 5 (.int .u8 0) 1 := ⟨by kernel_rfl, by kernel_rfl, rfl, by decide⟩

def byteV (x : UInt8) : Value := .int .u8 x.toNat
theorem grown_ext {w0 w w1 : World} {base k : Nat} {e : TypeId} {v : Value} {n : Nat} {xs : List Value} (x : Ext w0 w) (hb : w0.heap.size ≤ base) (ho : w.ownsRow base e k v n xs) (hg : w.grownBy w1 v.ownBlock) : Ext w0 w1 :=
  Below.trans x ⟨hg.os, hg.tape, hg.output, hg.size, fun i hi => hg.block i (Nat.lt_of_lt_of_le hi x.size) fun e => by have := (ho.lt _ e.symm).1; omega⟩
theorem row_slice {w : World} {base n : Nat} {e : TypeId} {v : Value} {xs : List Value} (h : w.ownsRow base e 1 v n xs) : ∃ (a : Option Addr) (cap : Nat), v = .slice a n cap ∧ (a = none → n = 0 ∧ cap = 0) ∧ n ≤ cap ∧ cap ≤ maxLen ∧ ∀ (k : Nat) x, xs[k]? = some x → ∃ g, a = some ⟨g, 0, none⟩ ∧ base ≤ g ∧ g < w.heap.size ∧ w.cell? ⟨g, k, none⟩ = some x := by
  rcases h.2 with ⟨rfl, rfl⟩ | ⟨g, cap, cur, rfl, hb, hh, hc, hm, hs, ht⟩
  · have h1 : xs.length = 0 := by have := h.1; omega
    obtain rfl := List.length_eq_zero_iff.1 h1
    exact ⟨none, 0, rfl, fun _ => ⟨rfl, rfl⟩, Nat.le_refl _, by decide, fun k x hx => by simp at hx⟩
  · refine ⟨some ⟨g, 0, none⟩, cap, rfl, (fun h => by cases h), hc, hm, fun k x hx => ⟨g, rfl, hb, ltB hh, ?_⟩⟩
    have hk : k < xs.length := (List.getElem?_eq_some_iff.1 hx).1
    rw [h.cellAt k (by have := h.1; omega), hx]
set_option maxRecDepth 100000 in
set_option maxHeartbeats 2000000 in
theorem ldata_any (x : ActR) (pv : Value) (w : World) (ht : x.text.size ≤ 140737488351232) (hl : x.long ≤ 9223372036854775807) :
    Calls Tryz.prog 96 #[.agg #[.int .i64 x.kind, .string x.p, .string x.q, .string x.text, .int .i64 x.long, .int .i64 x.time, pv]] w fun e w' => e = .returned (.string x.data) ∧ Ext w w' := by
  have HD := Lib.hid (show x.data = ⟨(dataL x.text (dataN x.text x.long)).toArray⟩ from rfl)
  have HN := Lib.hid (show dataN x.text x.long = if x.text.size = 0 then 0 else min x.long.toNat 3000 from rfl)
  generalize x.data = D at *
  generalize x.text = t at *
  generalize x.long = lg at *
  generalize x.kind = kd at *
  generalize x.p = xp at *
  generalize x.q = xq at *
  generalize x.time = tm at *
  obtain ⟨n, hn⟩ : ∃ n, n = dataN t lg := ⟨_, rfl⟩
  rw [← hn] at HD HN
  have HLE := Lib.hid (show n ≤ 3000 from hn ▸ dataN_le t lg)
  have hn3 : n ≤ 3000 := HLE.out
  clear hn
  go_enter Tryz.func96, Tryz.ntmps96
  go_wp2_with fail
  have HB0 := Lib.hid (show (w.alloc (.cells #[.int .i64 kd, .string xp, .string xq, .string t, .int .i64 lg, .int .i64 tm, pv] 69)).heap[w.heap.size]? = some (.cells #[.int .i64 kd, .string xp, .string xq, .string t, .int .i64 lg, .int .i64 tm, pv] 69 (0, 0)) from heap_alloc_new _ _)
  have HX0 := Lib.hid ((Ext.refl w).alloc (.cells #[.int .i64 kd, .string xp, .string xq, .string t, .int .i64 lg, .int .i64 tm, pv] 69))
  obtain ⟨wa, hwa⟩ : ∃ x, x = w.alloc (.cells #[.int .i64 kd, .string xp, .string xq, .string t, .int .i64 lg, .int .i64 tm, pv] 69) := ⟨_, rfl⟩
  rw [← hwa] at HB0 HX0 ⊢
  clear hwa
  go_loopw [3, 4] (fun v iv wr => Hid (∃ k : Nat, k ≤ n ∧ iv = .int .i64 k ∧ wr.ownsRow wa.heap.size 5 1 v k ((dataL t k).map byteV) ∧ Ext wa wr)) (fun _ iv _ => n - (intOf iv).toNat)
  case atStart => exact ⟨0, by omega, rfl, World.ownsRow_nil _ _ _ _, Ext.refl _⟩
  case round =>
    obtain ⟨k, hk, rfl, ho, hx⟩ := hrel.out
    clear hrel
    have HX := Lib.hid hx
    have HO := Lib.hid ho
    have hs := hx.size
    obtain ⟨a0, cap0, rfl, _⟩ := row_slice ho
    have HBR := Lib.hid ((hx.block (ltB HB0.out)).trans HB0.out)
    have ct : wr.cell? ⟨w.heap.size, 3, none⟩ = some (.string t) := cellB HBR.out
    have cl : wr.cell? ⟨w.heap.size, 4, none⟩ = some (.int .i64 lg) := cellB HBR.out
    by_cases hlt : k < n
    · have h1 : decide ((k : Int) < lg) = true := by rw [decide_eq_true_eq]; have := HN.out; split at this <;> omega
      have h2 : decide ((k : Int) < 3000) = true := by rw [decide_eq_true_eq]; omega
      have h3 : decide ((0 : Int) < (t.size : Int)) = true := by rw [decide_eq_true_eq]; have := HN.out; split at this <;> omega
      have hts : 0 < t.size := by rw [decide_eq_true_eq] at h3; omega
      obtain ⟨z, hz⟩ : ∃ z, t.toList[k % t.size]? = some z := ⟨_, List.getElem?_eq_getElem (by rw [len_toList]; exact Nat.mod_lt _ hts)⟩
      have HZ := Lib.hid (fun (h : ((k : Int) % (t.size : Int)).toNat < t.size) => show t[((k : Int) % (t.size : Int)).toNat]'h = z from by
        have e : ((k : Int) % (t.size : Int)).toNat = k % t.size := by rw [← Int.natCast_emod, Int.toNat_natCast]
        have h2 := getElem_toList t (k % t.size) (Nat.mod_lt _ hts)
        rw [hz] at h2
        have h3 := (Option.some.inj h2).symm
        simp only [e]
        exact h3)
      have HST := Lib.hid (show (dataL t (k + 1)).map byteV = (dataL t k).map byteV ++ [byteV z] from by rw [dataL_snoc, List.getD, hz]; simp)
      have q0 : ((t.size : Int) == 0) = false := by rw [beq_eq_false_iff_ne]; omega
      have q5 : (t.size : Int) ≠ 0 := by omega
      have q6 : ¬ t.size = 0 := by omega
      have q7 : decide ((t.size : Int) = 0) = false := by rw [decide_eq_false_iff_not]; omega
      have q1 : (k : Int).tmod (t.size : Int) = ((k % t.size : Nat) : Int) := by rw [Int.ofNat_tmod]
      have q2 : ((k % t.size : Nat) : Int) < (t.size : Int) := by have := Nat.mod_lt k hts; omega
      have q3 : IntKind.i64.wrap ((k % t.size : Nat) : Int) = ((k % t.size : Nat) : Int) := IntWalk.i64_in _ (by omega)
      have h3' : (0 : Int) < (t.size : Int) := by rwa [decide_eq_true_eq] at h3
      go_wp2_with fail
      go_region_held_law (fun w' => w'.cell? ⟨w.heap.size, 3, none⟩ = some (.string t)) (go_keep)
       ((refine step_append_m el_byte wa.heap.size (.slice a0 k cap0) k ((dataL t k).map byteV) (owns_ext HO.out ?_) wr.heap.size [byteV z] 1 rfl (.tmp 21) (.tmp 30) rfl rfl ?_ ?_ ?_ ?_ ?_ ?_ ?_
         · repeat (first | exact Ext.refl _ | refine Ext.alloc ?_ _ | refine Ext.drew ?_)
         · simp [Act.eval]
         · simp [Act.eval]
         · intro j u hj
           match j, hj with
           | 0, hj => exact (cellB (heap_new_drew rfl)).trans (by rw [← hj, HZ.out _]; rfl)
           | j + 1, hj => simp at hj
         · intro u hu
           simp only [List.mem_cons, List.not_mem_nil, or_false] at hu
           rw [hu]; rfl
         · omega
         · simp; omega
         intro v' w3 hown3 hgr3
         have hb3 := (hgr3.block w.heap.size (by have := ltB HBR.out; simp; omega) (fun e => by have := (HO.out.lt _ e.symm).1; have := ltB HB0.out; omega)).trans ((((Ext.refl wr).alloc _).drew.block (ltB HBR.out)).trans HBR.out)
         have k1 : w3.cell? ⟨w.heap.size, 3, none⟩ = some (.string t) := cellB hb3
         have HR := Lib.hid (show w3.ownsRow wa.heap.size 5 1 v' (k + 1) ((dataL t (k + 1)).map byteV) ∧ Ext wa w3 from ⟨by rw [HST.out]; exact hown3, grown_ext ((HX.out.alloc _).drew) (Nat.le_refl _) (owns_ext HO.out (by repeat (first | exact Ext.refl _ | refine Ext.alloc ?_ _ | refine Ext.drew ?_))) hgr3⟩)
         clear hown3 hgr3 hb3))
      all_goals
        go_wp2_with fail
        go_roundw
        case rel => exact ⟨k + 1, by omega, by go_num, HR.out.1, HR.out.2⟩
        case measure => simp [intOf] <;> omega
    · obtain rfl : k = n := by omega
      have HCV := Lib.hid (show (convert 22 9 (.slice a0 k cap0)).run Tryz.prog wr = .ok (.string D) wr from by
        rw [HD.out]
        obtain ⟨a1, cap1, e1, hz, _, _, hc⟩ := row_slice ho
        injection e1 with e1 _ e3
        subst e1; subst e3
        have hlen := dataL_len t k
        cases a0 with
        | none =>
          obtain ⟨rfl, rfl⟩ := hz rfl
          rw [run_convert_bytes_string wr 22 9 5 none 0 0 Tryz.underlying22 (by kernel_rfl) Tryz.underlying9]
          rfl
        | some A =>
          have h := run_convert_bytes_back wr 22 9 5 A cap0 (dataL t k) Tryz.underlying22 (by kernel_rfl) Tryz.underlying9 (fun j hj => by
            obtain ⟨g, e2, _, _, h1⟩ := hc j (byteV (dataL t k)[j]) (by rw [List.getElem?_map, List.getElem?_eq_getElem hj]; rfl)
            injection e2 with e2
            subst e2
            rw [show (⟨g, 0, none⟩ : Addr).add j = ⟨g, j, none⟩ from by unfold Addr.add; split <;> simp_all]
            exact h1)
          rw [hlen] at h
          exact h)
      have hcv := HCV.out
      by_cases hl1 : (k : Int) < lg
      · have h1 : decide ((k : Int) < lg) = true := by rwa [decide_eq_true_eq]
        by_cases hl2 : (k : Int) < 3000
        · have h2 : decide ((k : Int) < 3000) = true := by rwa [decide_eq_true_eq]
          have hts : t.size = 0 := by have := HN.out; split at this <;> omega
          have h3 : decide ((0 : Int) < (t.size : Int)) = false := by rw [decide_eq_false_iff_not]; omega
          go_wp2_with fail
          go_ret
          exact ⟨rfl, HX0.out.trans HX.out⟩
        · have h2 : decide ((k : Int) < 3000) = false := by rwa [decide_eq_false_iff_not]
          go_wp2_with fail
          go_ret
          exact ⟨rfl, HX0.out.trans HX.out⟩
      · have h1 : decide ((k : Int) < lg) = false := by rwa [decide_eq_false_iff_not]
        go_wp2_with fail
        go_ret
        exact ⟨rfl, HX0.out.trans HX.out⟩
end Go.Proofs.YtldppmjjgljinaaGreatDoor

namespace Go.Proofs.YtldppmjjgljinaaGreatDoor
open Go.RowKit

set_option maxRecDepth 100000 in
set_option maxHeartbeats 2000000 in
theorem llarge_any {v : Value} {l : List ActR} {w : World} (h : ActsIn w v l) (most : Nat) (hm : most ≤ 100) :
    Calls Tryz.prog 25 #[v, .int .i64 (most : Nat)] w fun e w' => e = .returned (.bool (largeB l most)) ∧ Ext w w' := by
  obtain ⟨a, cap, rfl, hl1, hl2, hcell⟩ := h
  unfold maxLen at hl2
  have HC := Lib.hid hcell
  obtain ⟨n, hn⟩ : ∃ n, n = l.length := ⟨_, rfl⟩
  have HL := Lib.hid hn
  rw [← hn] at hl1 ⊢
  clear hcell hn
  go_enter Tryz.func25, Tryz.ntmps25
  go_wp2_with fail
  go_loopw [5] (fun iv wr => Hid (∃ k : Nat, k ≤ n ∧ k ≤ most + 1 ∧ iv = .int .i64 k ∧ (∀ y ∈ l.take k, bigA y = false) ∧ Ext w wr)) (fun iv _ => n - (intOf iv).toNat)
  case atStart => exact ⟨0, Nat.zero_le _, Nat.zero_le _, rfl, by simp, Ext.refl _⟩
  case round =>
    obtain ⟨k, hk, hkm, rfl, hall, hx⟩ := hrel.out
    clear hrel
    have HX := Lib.hid hx
    have HA := Lib.hid hall
    clear hall
    by_cases hlt : k < n
    · have h1 : decide ((k : Int) < (n : Int)) = true := by rw [decide_eq_true_eq]; omega
      by_cases hle : k ≤ most
      · have h2 : decide ((k : Int) ≤ (most : Int)) = true := by rw [decide_eq_true_eq]; omega
        obtain ⟨x, hxk⟩ : ∃ x, l[k]? = some x := ⟨_, List.getElem?_eq_getElem (by have := HL.out; omega)⟩
        obtain ⟨hok, g, o, pv, rfl, _, hcs⟩ := HC.out k x hxk
        have c1 : wr.cell? ⟨g, o + k * 7 + 1, none⟩ = some (.string x.p) := (hx.cell (lt_of_cell (hcs 1 _ rfl))).trans (hcs 1 _ rfl)
        have c2 : wr.cell? ⟨g, o + k * 7 + 2, none⟩ = some (.string x.q) := (hx.cell (lt_of_cell (hcs 2 _ rfl))).trans (hcs 2 _ rfl)
        have c3 : wr.cell? ⟨g, o + k * 7 + 3, none⟩ = some (.string x.text) := (hx.cell (lt_of_cell (hcs 3 _ rfl))).trans (hcs 3 _ rfl)
        have z1 := hok.p
        have z2 := hok.q
        have z3 := hok.text
        unfold reach at z1 z2 z3
        have HB := Lib.hid (show bigA x = (decide (1000 < x.p.size + x.q.size) || decide (10000 < x.text.size)) from rfl)
        have HTK := Lib.hid (show l.take (k + 1) = l.take k ++ [x] from by rw [List.take_add_one, hxk]; rfl)
        have HXL := Lib.hid (show x ∈ l.take (most + 1) from List.mem_of_getElem? (i := k) (by rw [List.getElem?_take, if_pos (by omega)]; exact hxk))
        generalize x.p = xp at *
        generalize x.q = xq at *
        generalize x.text = xt at *
        have q1 : IntKind.i64.wrap ((xp.size : Int) + (xq.size : Int)) = (xp.size : Int) + (xq.size : Int) := IntWalk.i64_in _ (by omega)
        clear hcs hok hxk
        by_cases hb1 : 1000 < xp.size + xq.size
        · have d1 : decide ((1000 : Int) < (xp.size : Int) + (xq.size : Int)) = true := by rw [decide_eq_true_eq]; omega
          have HR := Lib.hid (show largeB l most = true from by
            unfold largeB
            rw [List.any_eq_true.2 ⟨x, HXL.out, by rw [HB.out, decide_eq_true hb1]; rfl⟩]; rfl)
          go_wp2_with fail
          go_quiet (fail)
          go_wp2_with fail
          go_ret
          exact ⟨ret_bool HR.out.symm, HX.out.drewN _⟩
        · have d1 : decide ((1000 : Int) < (xp.size : Int) + (xq.size : Int)) = false := by rw [decide_eq_false_iff_not]; omega
          by_cases hb2 : 10000 < xt.size
          · have d2 : decide ((10000 : Int) < (xt.size : Int)) = true := by rw [decide_eq_true_eq]; omega
            have HR := Lib.hid (show largeB l most = true from by
              unfold largeB
              rw [List.any_eq_true.2 ⟨x, HXL.out, by rw [HB.out, decide_eq_true hb2, Bool.or_true]⟩]; rfl)
            go_wp2_with fail
            go_quiet (fail)
            go_wp2_with fail
            go_ret
            exact ⟨ret_bool HR.out.symm, HX.out.drewN _⟩
          · have d2 : decide ((10000 : Int) < (xt.size : Int)) = false := by rw [decide_eq_false_iff_not]; omega
            have HR := Lib.hid (show bigA x = false from by rw [HB.out, decide_eq_false hb1, decide_eq_false hb2]; rfl)
            go_wp2_with fail
            go_quiet (fail)
            go_wp2_with fail
            go_roundw
            case rel => exact ⟨k + 1, by omega, by omega, by go_num, fun y hy => by
              rw [HTK.out] at hy
              rcases List.mem_append.1 hy with hy | hy
              · exact HA.out y hy
              · rw [List.mem_singleton.1 hy]; exact HR.out, HX.out.drewN _⟩
            case measure => simp [intOf] <;> omega
      · have h2 : decide ((k : Int) ≤ (most : Int)) = false := by rw [decide_eq_false_iff_not]; omega
        have HR := Lib.hid (show decide (most < n) = largeB l most from by
          unfold largeB
          rw [decide_eq_true (show most < l.length from by have := HL.out; omega), Bool.or_true, decide_eq_true_eq]; omega)
        go_wp2_with fail
        go_ret
        exact ⟨ret_bool HR.out, HX.out⟩
    · obtain rfl : k = n := by omega
      have h1 : decide ((k : Int) < (k : Int)) = false := by simp
      have HR := Lib.hid (show decide (most < k) = largeB l most from by
        have hkl := HL.out
        unfold largeB
        have : (l.take (most + 1)).any bigA = false := by
          rw [List.any_eq_false]
          intro y hy
          have : y ∈ l.take k := by rw [hkl, List.take_length]; exact List.mem_of_mem_take hy
          rw [HA.out y this]; decide
        rw [this, Bool.false_or, ← hkl])
      go_wp2_with fail
      go_ret
      exact ⟨ret_bool HR.out, HX.out⟩
end Go.Proofs.YtldppmjjgljinaaGreatDoor

namespace Go.Proofs.YtldppmjjgljinaaGreatDoor
open Go.RowKit

theorem DkRun.fit {k : Nat} {D : Dk} (R : DkRun k D) (hk : k ≤ 100000) : DkFit D := ⟨R.ok, by have := R.len; omega, by have := R.lo; omega, R.hi⟩
theorem picks_in {w0 w : World} {M : List Nat} {v : Value} {ks : List UInt8} (h : BytesIn w0 v ks) (x : Ext w0 w) (hM : ∀ b ∈ M, w0.heap.size ≤ b) : PicksAt w M v ks := by
  obtain ⟨a, cap, h1, _, _, h4, h5⟩ := h
  refine ⟨a, cap, h1, by unfold reach at h4; omega, fun k u hk => ?_⟩
  obtain ⟨g, o, e, hc⟩ := h5 k u hk
  have := lt_of_cell hc
  exact ⟨g, o, e, fun hm => by have := hM g hm; omega, (x.cell this).trans hc⟩
theorem picks_nil (w : World) (M : List Nat) : PicksAt w M (.slice none 0 0) [] := ⟨none, 0, rfl, by decide, fun k u hk => by simp at hk⟩
theorem ActPost.from_ext {w w1 w' : World} {d : Nat} {M I : List Nat} {R : Int × Dk} {e : Ending} (x : Ext w w1) (h : ActPost w1 d M I R e w') : ActPost w d M I R e w' := by
  obtain ⟨h1, M', I', h2, h3⟩ := h
  exact ⟨h1, M', I', h2, Chg.from_ext x h3.chg, fun b hb => (h3.m b hb).imp id fun hge => Nat.le_trans x.size hge, fun b hb => (h3.i b hb).imp id fun hge => Nat.le_trans x.size hge⟩
/-- An act that is small enough to be looked at. -/
structure ActFit (x : ActR) : Prop where
  ok : ActOk x
  p : x.p.size ≤ 1000
  q : x.q.size ≤ 1000
  text : x.text.size ≤ 10000

set_option maxRecDepth 100000 in
set_option maxHeartbeats 4000000 in
theorem ldo_any {w0 w : World} {d : Nat} {M I : List Nat} {D : Dk} (h : DkAt w d M I D) (O : DkFit D) (E : Env w0) (x0 : Ext w0 w) (hM0 : ∀ b ∈ M, w0.heap.size ≤ b) (a : ActR) (hA : ActFit a) (pv : Value) (hp : BytesIn w0 pv a.picks) :
    Calls Tryz.prog 40 #[.pointer (some ⟨d, 0, none⟩), .agg #[.int .i64 a.kind, .string a.p, .string a.q, .string a.text, .int .i64 a.long, .int .i64 a.time, pv]] w (ActPost w d M I (D.doA a)) := by
  have z1 := hA.p
  have z2 := hA.q
  have z3 := hA.text
  have z4 := hA.ok.long.2
  have HK := Lib.hid (show D.doA a = D.done a (a.kind % 16) from rfl)
  have hk := i64_and15 a.kind
  have HD := fun w => Lib.hid (ldata_any a pv w (by omega) z4)
  obtain ⟨dt, hdt⟩ : ∃ s, s = a.data := ⟨_, rfl⟩
  have hdz : dt.size ≤ 3000 := hdt ▸ dataS_size _ _
  have HDT := Lib.hid hdt
  rw [← hdt] at HD
  clear hdt
  have HW := fun w1 (x : Ext w w1) => Lib.hid (Write_any (h.ext x) O (E.ext (x0.trans x)) a.p dt a.time (by omega) (by omega))
  have HAp := fun w1 (x : Ext w w1) => Lib.hid (Append_any (h.ext x) O (E.ext (x0.trans x)) a.p dt (by omega) (by omega))
  have HMk := fun w1 (x : Ext w w1) => Lib.hid (Mkdir_any (h.ext x) O (E.ext (x0.trans x)) a.p (by omega))
  have HLk := fun w1 (x : Ext w w1) => Lib.hid (Link_any (h.ext x) O (E.ext (x0.trans x)) a.p dt a.time (by omega) (by omega))
  have HRn := fun w1 (x : Ext w w1) => Lib.hid (Rename_any (h.ext x) O (E.ext (x0.trans x)) a.p a.q (by omega) (by omega))
  have HRm := fun w1 (x : Ext w w1) => Lib.hid (Remove_any (h.ext x) O (E.ext (x0.trans x)) a.p (by omega))
  have HCr := fun w1 (x : Ext w w1) => Lib.hid (Crash_any (h.ext x) O E (x0.trans x) hM0 pv a.picks (picks_in hp (x0.trans x) hM0))
  have HFu := fun w1 (x : Ext w w1) => Lib.hid (Fuse_any (h.ext x) a.long)
  have HSy := fun w1 (x : Ext w w1) => Lib.hid (Sync_any (h.ext x) O)
  have HE : ∀ (k : Int), a.kind % 16 = k → D.doA a = D.done a k := fun k e => e ▸ rfl
  have HEH := Lib.hid HE
  generalize D.doA a = R at *
  obtain ⟨k, hkk⟩ : ∃ k, a.kind % 16 = k := ⟨_, rfl⟩
  rw [hkk] at hk
  have HR := Lib.hid (HE k hkk)
  have hk16 : 0 ≤ k ∧ k < 16 := by omega
  clear HE HEH HK h O E hkk hA hp
  -- BRANCHES
  by_cases e1 : k = 1
  · subst e1
    have HR2 := Lib.hid (HR.out.trans (show D.done a 1 = D.act (.write a.p a.data a.time) from rfl))
    rw [← HDT.out] at HR2
    clear HR HAp HMk HLk HRn HRm HCr HFu HSy
    generalize a.kind = kd at *
    generalize a.p = xp at *
    generalize a.q = xq at *
    generalize a.text = xt at *
    generalize a.long = lg at *
    generalize a.time = tm at *
    go_enter Tryz.func40, Tryz.ntmps40
    go_wp2_with fail
    have hb := heap_alloc_new w (.cells #[.int .i64 kd, .string xp, .string xq, .string xt, .int .i64 lg, .int .i64 tm, pv] 69)
    have HB := Lib.hid (show ∀ w', (∃ y : After (w.alloc (.cells #[.int .i64 kd, .string xp, .string xq, .string xt, .int .i64 lg, .int .i64 tm, pv] 69)), w' = y.v) → w'.heap[w.heap.size]? = some (.cells #[.int .i64 kd, .string xp, .string xq, .string xt, .int .i64 lg, .int .i64 tm, pv] 69 (0, 0)) from by rintro _ ⟨y, rfl⟩; exact (y.x.block (ltB hb)).trans hb)
    have c1 := fun y => After.at hb y (k := 1)
    have c5 := fun y => After.at hb y (k := 5)
    have HX1 := Lib.hid ((Ext.refl w).alloc (.cells #[.int .i64 kd, .string xp, .string xq, .string xt, .int .i64 lg, .int .i64 tm, pv] 69))
    refine wp_region_after_tail 7 (by kernel_rfl) (by kernel_rfl) ?_
    simp only [List.take_succ_cons, List.take_zero, List.drop_succ_cons, List.drop_zero]
    repeat (first | (refine wpQuiet_load_row rfl 69 (.tmp 3) rfl w.heap.size rfl 69 #[.int .i64 kd, .string xp, .string xq, .string xt, .int .i64 lg, .int .i64 tm, pv] (0, 0) _ HB.out Tryz.underlying69 rfl (by kernel_rfl) ?_; go_frame) | go_big_quiet_step (exact After.of (HD _).out))
    refine wpQuiet_nil ?_
    rintro _ ⟨y, rfl⟩
    clear hb HB c1 c5
    go_wp2_with fail
    refine (HW y.v (HX1.out.trans y.x)).out.mono ?_
    rintro e w4 hq
    obtain ⟨rfl, _⟩ := id hq
    have HQ := Lib.hid (hq.from_ext (HX1.out.trans y.x))
    clear hq
    go_wp2_with fail
    go_ret
    rw [HR2.out]
    exact HQ.out
  by_cases e2 : k = 2
  · subst e2
    have HR2 := Lib.hid (HR.out.trans (show D.done a 2 = D.act (.add a.p a.data) from rfl))
    rw [← HDT.out] at HR2
    clear HR HW HMk HLk HRn HRm HCr HFu HSy
    generalize a.kind = kd at *
    generalize a.p = xp at *
    generalize a.q = xq at *
    generalize a.text = xt at *
    generalize a.long = lg at *
    generalize a.time = tm at *
    go_enter Tryz.func40, Tryz.ntmps40
    go_wp2_with fail
    have hb := heap_alloc_new w (.cells #[.int .i64 kd, .string xp, .string xq, .string xt, .int .i64 lg, .int .i64 tm, pv] 69)
    have HB := Lib.hid (show ∀ w', (∃ y : After (w.alloc (.cells #[.int .i64 kd, .string xp, .string xq, .string xt, .int .i64 lg, .int .i64 tm, pv] 69)), w' = y.v) → w'.heap[w.heap.size]? = some (.cells #[.int .i64 kd, .string xp, .string xq, .string xt, .int .i64 lg, .int .i64 tm, pv] 69 (0, 0)) from by rintro _ ⟨y, rfl⟩; exact (y.x.block (ltB hb)).trans hb)
    have c1 := fun y => After.at hb y (k := 1)
    have HX1 := Lib.hid ((Ext.refl w).alloc (.cells #[.int .i64 kd, .string xp, .string xq, .string xt, .int .i64 lg, .int .i64 tm, pv] 69))
    refine wp_region_after_tail 5 (by kernel_rfl) (by kernel_rfl) ?_
    simp only [List.take_succ_cons, List.take_zero, List.drop_succ_cons, List.drop_zero]
    repeat (first | (refine wpQuiet_load_row rfl 69 (.tmp 3) rfl w.heap.size rfl 69 #[.int .i64 kd, .string xp, .string xq, .string xt, .int .i64 lg, .int .i64 tm, pv] (0, 0) _ HB.out Tryz.underlying69 rfl (by kernel_rfl) ?_; go_frame) | go_big_quiet_step (exact After.of (HD _).out))
    refine wpQuiet_nil ?_
    rintro _ ⟨y, rfl⟩
    clear hb HB c1
    go_wp2_with fail
    refine (HAp y.v (HX1.out.trans y.x)).out.mono ?_
    rintro e w4 hq
    obtain ⟨rfl, _⟩ := id hq
    have HQ := Lib.hid (hq.from_ext (HX1.out.trans y.x))
    clear hq
    go_wp2_with fail
    go_ret
    rw [HR2.out]
    exact HQ.out
  by_cases e3 : k = 3
  · subst e3
    have HR2 := Lib.hid (HR.out.trans (show D.done a 3 = D.act (.mkdir a.p) from rfl))
    clear HR HW HAp HLk HRn HRm HCr HFu HSy HD
    generalize a.kind = kd at *
    generalize a.p = xp at *
    generalize a.q = xq at *
    generalize a.text = xt at *
    generalize a.long = lg at *
    generalize a.time = tm at *
    go_enter Tryz.func40, Tryz.ntmps40
    have HX1 := Lib.hid ((Ext.refl w).alloc (.cells #[.int .i64 kd, .string xp, .string xq, .string xt, .int .i64 lg, .int .i64 tm, pv] 69))
    go_wp2_with fail
    refine (HMk _ HX1.out).out.mono ?_
    rintro e w4 hq
    obtain ⟨rfl, _⟩ := id hq
    have HQ := Lib.hid (hq.from_ext HX1.out)
    clear hq
    go_wp2_with fail
    go_ret
    rw [HR2.out]
    exact HQ.out
  by_cases e4 : k = 4
  · subst e4
    have HR2 := Lib.hid (HR.out.trans (show D.done a 4 = D.act (.link a.p a.data a.time) from rfl))
    rw [← HDT.out] at HR2
    clear HR HW HAp HMk HRn HRm HCr HFu HSy
    generalize a.kind = kd at *
    generalize a.p = xp at *
    generalize a.q = xq at *
    generalize a.text = xt at *
    generalize a.long = lg at *
    generalize a.time = tm at *
    go_enter Tryz.func40, Tryz.ntmps40
    go_wp2_with fail
    have hb := heap_alloc_new w (.cells #[.int .i64 kd, .string xp, .string xq, .string xt, .int .i64 lg, .int .i64 tm, pv] 69)
    have HB := Lib.hid (show ∀ w', (∃ y : After (w.alloc (.cells #[.int .i64 kd, .string xp, .string xq, .string xt, .int .i64 lg, .int .i64 tm, pv] 69)), w' = y.v) → w'.heap[w.heap.size]? = some (.cells #[.int .i64 kd, .string xp, .string xq, .string xt, .int .i64 lg, .int .i64 tm, pv] 69 (0, 0)) from by rintro _ ⟨y, rfl⟩; exact (y.x.block (ltB hb)).trans hb)
    have c1 := fun y => After.at hb y (k := 1)
    have c5 := fun y => After.at hb y (k := 5)
    have HX1 := Lib.hid ((Ext.refl w).alloc (.cells #[.int .i64 kd, .string xp, .string xq, .string xt, .int .i64 lg, .int .i64 tm, pv] 69))
    refine wp_region_after_tail 7 (by kernel_rfl) (by kernel_rfl) ?_
    simp only [List.take_succ_cons, List.take_zero, List.drop_succ_cons, List.drop_zero]
    repeat (first | (refine wpQuiet_load_row rfl 69 (.tmp 3) rfl w.heap.size rfl 69 #[.int .i64 kd, .string xp, .string xq, .string xt, .int .i64 lg, .int .i64 tm, pv] (0, 0) _ HB.out Tryz.underlying69 rfl (by kernel_rfl) ?_; go_frame) | go_big_quiet_step (exact After.of (HD _).out))
    refine wpQuiet_nil ?_
    rintro _ ⟨y, rfl⟩
    clear hb HB c1 c5
    go_wp2_with fail
    refine (HLk y.v (HX1.out.trans y.x)).out.mono ?_
    rintro e w4 hq
    obtain ⟨rfl, _⟩ := id hq
    have HQ := Lib.hid (hq.from_ext (HX1.out.trans y.x))
    clear hq
    go_wp2_with fail
    go_ret
    rw [HR2.out]
    exact HQ.out
  by_cases e5 : k = 5
  · subst e5
    have HR2 := Lib.hid (HR.out.trans (show D.done a 5 = D.act (.rename a.p a.q) from rfl))
    clear HR HW HAp HMk HLk HRm HCr HFu HSy HD
    generalize a.kind = kd at *
    generalize a.p = xp at *
    generalize a.q = xq at *
    generalize a.text = xt at *
    generalize a.long = lg at *
    generalize a.time = tm at *
    go_enter Tryz.func40, Tryz.ntmps40
    have HX1 := Lib.hid ((Ext.refl w).alloc (.cells #[.int .i64 kd, .string xp, .string xq, .string xt, .int .i64 lg, .int .i64 tm, pv] 69))
    go_wp2_with fail
    refine (HRn _ HX1.out).out.mono ?_
    rintro e w4 hq
    obtain ⟨rfl, _⟩ := id hq
    have HQ := Lib.hid (hq.from_ext HX1.out)
    clear hq
    go_wp2_with fail
    go_ret
    rw [HR2.out]
    exact HQ.out
  by_cases e6 : k = 6
  · subst e6
    have HR2 := Lib.hid (HR.out.trans (show D.done a 6 = D.act (.remove a.p) from rfl))
    clear HR HW HAp HMk HLk HRn HCr HFu HSy HD
    generalize a.kind = kd at *
    generalize a.p = xp at *
    generalize a.q = xq at *
    generalize a.text = xt at *
    generalize a.long = lg at *
    generalize a.time = tm at *
    go_enter Tryz.func40, Tryz.ntmps40
    have HX1 := Lib.hid ((Ext.refl w).alloc (.cells #[.int .i64 kd, .string xp, .string xq, .string xt, .int .i64 lg, .int .i64 tm, pv] 69))
    go_wp2_with fail
    refine (HRm _ HX1.out).out.mono ?_
    rintro e w4 hq
    obtain ⟨rfl, _⟩ := id hq
    have HQ := Lib.hid (hq.from_ext HX1.out)
    clear hq
    go_wp2_with fail
    go_ret
    rw [HR2.out]
    exact HQ.out
  by_cases e7 : k = 7
  · subst e7
    have HR2 := Lib.hid (HR.out.trans (show D.done a 7 = (0, D.crash a.picks) from rfl))
    clear HR HW HAp HMk HLk HRn HRm HFu HSy HD
    generalize a.kind = kd at *
    generalize a.p = xp at *
    generalize a.q = xq at *
    generalize a.text = xt at *
    generalize a.long = lg at *
    generalize a.time = tm at *
    go_enter Tryz.func40, Tryz.ntmps40
    have HX1 := Lib.hid ((Ext.refl w).alloc (.cells #[.int .i64 kd, .string xp, .string xq, .string xt, .int .i64 lg, .int .i64 tm, pv] 69))
    go_wp2_with fail
    refine (HCr _ HX1.out).out.mono ?_
    rintro e w4 hq
    obtain ⟨rfl, _⟩ := id hq
    have HQ := Lib.hid (hq.from_ext HX1.out)
    clear hq
    go_wp2_with fail
    go_ret
    rw [HR2.out]
    exact HQ.out
  by_cases e8 : k = 8
  · subst e8
    have HR2 := Lib.hid (HR.out.trans (show D.done a 8 = D.fuse a.long from rfl))
    clear HR HW HAp HMk HLk HRn HRm HCr HSy HD
    generalize a.kind = kd at *
    generalize a.p = xp at *
    generalize a.q = xq at *
    generalize a.text = xt at *
    generalize a.long = lg at *
    generalize a.time = tm at *
    go_enter Tryz.func40, Tryz.ntmps40
    have HX1 := Lib.hid ((Ext.refl w).alloc (.cells #[.int .i64 kd, .string xp, .string xq, .string xt, .int .i64 lg, .int .i64 tm, pv] 69))
    go_wp2_with fail
    refine (HFu _ HX1.out).out.mono ?_
    rintro e w4 hq
    obtain ⟨rfl, _⟩ := id hq
    have HQ := Lib.hid (hq.from_ext HX1.out)
    clear hq
    go_wp2_with fail
    go_ret
    rw [HR2.out]
    exact HQ.out
  · have HR2 := Lib.hid (HR.out.trans (show D.done a k = D.sync from by unfold Dk.done; rw [if_neg e1, if_neg e2, if_neg e3, if_neg e4, if_neg e5, if_neg e6, if_neg e7, if_neg e8]))
    have n1 : (k == 1) = false := by rw [beq_eq_false_iff_ne]; exact e1
    have n2 : (k == 2) = false := by rw [beq_eq_false_iff_ne]; exact e2
    have n3 : (k == 3) = false := by rw [beq_eq_false_iff_ne]; exact e3
    have n4 : (k == 4) = false := by rw [beq_eq_false_iff_ne]; exact e4
    have n5 : (k == 5) = false := by rw [beq_eq_false_iff_ne]; exact e5
    have n6 : (k == 6) = false := by rw [beq_eq_false_iff_ne]; exact e6
    have n7 : (k == 7) = false := by rw [beq_eq_false_iff_ne]; exact e7
    have n8 : (k == 8) = false := by rw [beq_eq_false_iff_ne]; exact e8
    clear e1 e2 e3 e4 e5 e6 e7 e8
    clear HR HW HAp HMk HLk HRn HRm HCr HFu HD
    generalize a.kind = kd at *
    generalize a.p = xp at *
    generalize a.q = xq at *
    generalize a.text = xt at *
    generalize a.long = lg at *
    generalize a.time = tm at *
    go_enter Tryz.func40, Tryz.ntmps40
    have HX1 := Lib.hid ((Ext.refl w).alloc (.cells #[.int .i64 kd, .string xp, .string xq, .string xt, .int .i64 lg, .int .i64 tm, pv] 69))
    go_wp2_with fail
    refine (HSy _ HX1.out).out.mono ?_
    rintro e w4 hq
    obtain ⟨rfl, _⟩ := id hq
    have HQ := Lib.hid (hq.from_ext HX1.out)
    clear hq
    go_wp2_with fail
    go_ret
    rw [HR2.out]
    exact HQ.out
end Go.Proofs.YtldppmjjgljinaaGreatDoor
