/- caravanlaw09's data: contract. caravanlaw09's large: contract. -/
import Derived.Test.YtldppmjjgljinaaGreatDoorActD
import Derived.Test.YtldppmjjgljinaaGreatDoorStepK
import Derived.Test.YtldppmjjgljinaaGreatDoorBlk
import Derived.Deep.RegionHeldLaw
namespace Go.Proofs.YtldppmjjgljinaaGreatDoor
open Go.RowKit

theorem i64_and15 (n : Int) : bits .and .i64 n 15 = n % 16 := by
  have h15 : (BitVec.ofInt 64 15).toNat = 2 ^ 4 - 1 := by decide
  have key : (BitVec.ofInt 64 n &&& BitVec.ofInt 64 15).toNat = (n % ((2 ^ 64 : Nat) : Int)).toNat % 2 ^ 4 := by
    rw [BitVec.toNat_and, BitVec.toNat_ofInt, h15, Nat.and_two_pow_sub_one_eq_mod]
  show IntKind.i64.wrap ((BitVec.ofInt 64 n &&& BitVec.ofInt 64 15).toNat : Nat) = n % 16
  rw [key, IntKind.wrap_i64]
  omega

def actV (x : ActR) (pv : Value) : Value := .agg #[.int .i64 x.kind, .string x.p, .string x.q, .string x.text, .int .i64 x.long, .int .i64 x.time, pv]
theorem el_byte : Elem Tryz.prog 22 5 (.int .u8 0) 1 := ⟨by kernel_rfl, by kernel_rfl, rfl, by decide⟩

def byteV (x : UInt8) : Value := .int .u8 x.toNat
theorem grown_ext {w0 w w1 : World} {base k : Nat} {e : TypeId} {v : Value} {n : Nat} {xs : List Value} (x : Ext w0 w) (hb : w0.heap.size ≤ base) (ho : w.ownsRow base e k v n xs) (hg : w.grownBy w1 v.ownBlock) : Ext w0 w1 :=
  Below.trans x ⟨hg.os, hg.tape, hg.output, hg.size, fun i hi => hg.block i (Nat.lt_of_lt_of_le hi x.size) fun e => by have := (ho.lt _ e.symm).1; omega⟩
theorem row_slice {w : World} {base n : Nat} {e : TypeId} {v : Value} {xs : List Value} (h : w.ownsRow base e 1 v n xs) : ∃ (a : Option Addr) (cap : Nat), v = .slice a n cap ∧ (a = none → n = 0 ∧ cap = 0) ∧ n ≤ cap ∧ cap ≤ maxLen ∧ ∀ (k : Nat) x, xs[k]? = some x → ∃ g, a = some ⟨g, 0, none⟩ ∧ base ≤ g ∧ g < w.heap.size ∧ w.cell? ⟨g, k, none⟩ = some x := by
  rcases h.2 with ⟨rfl, rfl⟩ | ⟨g, cap, cur, rfl, hb, hh, hc, hm, hs, ht⟩
  · have h1 : xs.length = 0 := by have := h.1; omega
    obtain rfl := List.length_eq_zero_iff.1 h1
    exact ⟨none, 0, rfl, fun _ => ⟨rfl, rfl⟩, Nat.le_refl _, by decide, fun k x hx => by simp at hx⟩
  · refine ⟨some ⟨g, 0, none⟩, cap, rfl, (fun h => by cases h), hc, hm, fun k x hx => ⟨g, rfl, hb, ltB hh, ?_⟩⟩
    have hk : k < xs.length := (List.getElem?_eq_some_iff.1 hx).1
    rw [h.cellAt k (by have := h.1; omega), hx]
set_option maxRecDepth 100000 in
set_option maxHeartbeats 2000000 in
theorem ldata_any (x : ActR) (pv : Value) (w : World) (ht : x.text.size ≤ 140737488351232) (hl : x.long ≤ 9223372036854775807) :
    Calls Tryz.prog 96 #[.agg #[.int .i64 x.kind, .string x.p, .string x.q, .string x.text, .int .i64 x.long, .int .i64 x.time, pv]] w fun e w' => e = .returned (.string x.data) ∧ Ext w w' := by
  have HD := Lib.hid (show x.data = ⟨(dataL x.text (dataN x.text x.long)).toArray⟩ from rfl)
  have HN := Lib.hid (show dataN x.text x.long = if x.text.size = 0 then 0 else min x.long.toNat 3000 from rfl)
  generalize x.data = D at *
  generalize x.text = t at *
  generalize x.long = lg at *
  generalize x.kind = kd at *
  generalize x.p = xp at *
  generalize x.q = xq at *
  generalize x.time = tm at *
  obtain ⟨n, hn⟩ : ∃ n, n = dataN t lg := ⟨_, rfl⟩
  rw [← hn] at HD HN
  have HLE := Lib.hid (show n ≤ 3000 from hn ▸ dataN_le t lg)
  have hn3 : n ≤ 3000 := HLE.out
  clear hn
  go_enter Tryz.func96, Tryz.ntmps96
  go_wp2_with fail
  have HB0 := Lib.hid (show (w.alloc (.cells #[.int .i64 kd, .string xp, .string xq, .string t, .int .i64 lg, .int .i64 tm, pv] 69)).heap[w.heap.size]? = some (.cells #[.int .i64 kd, .string xp, .string xq, .string t, .int .i64 lg, .int .i64 tm, pv] 69 (0, 0)) from heap_alloc_new _ _)
  have HX0 := Lib.hid ((Ext.refl w).alloc (.cells #[.int .i64 kd, .string xp, .string xq, .string t, .int .i64 lg, .int .i64 tm, pv] 69))
  obtain ⟨wa, hwa⟩ : ∃ x, x = w.alloc (.cells #[.int .i64 kd, .string xp, .string xq, .string t, .int .i64 lg, .int .i64 tm, pv] 69) := ⟨_, rfl⟩
  rw [← hwa] at HB0 HX0 ⊢
  clear hwa
  go_loopw [3, 4] (fun v iv wr => Hid (∃ k : Nat, k ≤ n ∧ iv = .int .i64 k ∧ wr.ownsRow wa.heap.size 5 1 v k ((dataL t k).map byteV) ∧ Ext wa wr)) (fun _ iv _ => n - (intOf iv).toNat)
  case atStart => exact ⟨0, by omega, rfl, World.ownsRow_nil _ _ _ _, Ext.refl _⟩
  case round =>
    obtain ⟨k, hk, rfl, ho, hx⟩ := hrel.out
    clear hrel
    have HX := Lib.hid hx
    have HO := Lib.hid ho
    have hs := hx.size
    obtain ⟨a0, cap0, rfl, _⟩ := row_slice ho
    have HBR := Lib.hid ((hx.block (ltB HB0.out)).trans HB0.out)
    have ct : wr.cell? ⟨w.heap.size, 3, none⟩ = some (.string t) := cellB HBR.out
    have cl : wr.cell? ⟨w.heap.size, 4, none⟩ = some (.int .i64 lg) := cellB HBR.out
    by_cases hlt : k < n
    · have h1 : decide ((k : Int) < lg) = true := by rw [decide_eq_true_eq]; have := HN.out; split at this <;> omega
      have h2 : decide ((k : Int) < 3000) = true := by rw [decide_eq_true_eq]; omega
      have h3 : decide ((0 : Int) < (t.size : Int)) = true := by rw [decide_eq_true_eq]; have := HN.out; split at this <;> omega
      have hts : 0 < t.size := by rw [decide_eq_true_eq] at h3; omega
      obtain ⟨z, hz⟩ : ∃ z, t.toList[k % t.size]? = some z := ⟨_, List.getElem?_eq_getElem (by rw [len_toList]; exact Nat.mod_lt _ hts)⟩
      have HZ := Lib.hid (fun (h : ((k : Int) % (t.size : Int)).toNat < t.size) => show t[((k : Int) % (t.size : Int)).toNat]'h = z from by
        have e : ((k : Int) % (t.size : Int)).toNat = k % t.size := by rw [← Int.natCast_emod, Int.toNat_natCast]
        have h2 := getElem_toList t (k % t.size) (Nat.mod_lt _ hts)
        rw [hz] at h2
        have h3 := (Option.some.inj h2).symm
        simp only [e]
        exact h3)
      have HST := Lib.hid (show (dataL t (k + 1)).map byteV = (dataL t k).map byteV ++ [byteV z] from by rw [dataL_snoc, List.getD, hz]; simp)
      have q0 : ((t.size : Int) == 0) = false := by rw [beq_eq_false_iff_ne]; omega
      have q5 : (t.size : Int) ≠ 0 := by omega
      have q6 : ¬ t.size = 0 := by omega
      have q7 : decide ((t.size : Int) = 0) = false := by rw [decide_eq_false_iff_not]; omega
      have q1 : (k : Int).tmod (t.size : Int) = ((k % t.size : Nat) : Int) := by rw [Int.ofNat_tmod]
      have q2 : ((k % t.size : Nat) : Int) < (t.size : Int) := by have := Nat.mod_lt k hts; omega
      have q3 : IntKind.i64.wrap ((k % t.size : Nat) : Int) = ((k % t.size : Nat) : Int) := IntWalk.i64_in _ (by omega)
      have h3' : (0 : Int) < (t.size : Int) := by rwa [decide_eq_true_eq] at h3
      go_wp2_with fail
      go_region_held_law (fun w' => w'.cell? ⟨w.heap.size, 3, none⟩ = some (.string t)) (go_keep)
       ((refine step_append_m el_byte wa.heap.size (.slice a0 k cap0) k ((dataL t k).map byteV) (owns_ext HO.out ?_) wr.heap.size [byteV z] 1 rfl (.tmp 21) (.tmp 30) rfl rfl ?_ ?_ ?_ ?_ ?_ ?_ ?_
         · repeat (first | exact Ext.refl _ | refine Ext.alloc ?_ _ | refine Ext.drew ?_)
         · simp [Act.eval]
         · simp [Act.eval]
         · intro j u hj
           match j, hj with
           | 0, hj => exact (cellB (heap_new_drew rfl)).trans (by rw [← hj, HZ.out _]; rfl)
           | j + 1, hj => simp at hj
         · intro u hu
           simp only [List.mem_cons, List.not_mem_nil, or_false] at hu
           rw [hu]; rfl
         · omega
         · simp; omega
         intro v' w3 hown3 hgr3
         have hb3 := (hgr3.block w.heap.size (by have := ltB HBR.out; simp; omega) (fun e => by have := (HO.out.lt _ e.symm).1; have := ltB HB0.out; omega)).trans ((((Ext.refl wr).alloc _).drew.block (ltB HBR.out)).trans HBR.out)
         have k1 : w3.cell? ⟨w.heap.size, 3, none⟩ = some (.string t) := cellB hb3
         have HR := Lib.hid (show w3.ownsRow wa.heap.size 5 1 v' (k + 1) ((dataL t (k + 1)).map byteV) ∧ Ext wa w3 from ⟨by rw [HST.out]; exact hown3, grown_ext ((HX.out.alloc _).drew) (Nat.le_refl _) (owns_ext HO.out (by repeat (first | exact Ext.refl _ | refine Ext.alloc ?_ _ | refine Ext.drew ?_))) hgr3⟩)
         clear hown3 hgr3 hb3))
      all_goals
        go_wp2_with fail
        go_roundw
        case rel => exact ⟨k + 1, by omega, by go_num, HR.out.1, HR.out.2⟩
        case measure => simp [intOf] <;> omega
    · obtain rfl : k = n := by omega
      have HCV := Lib.hid (show (convert 22 9 (.slice a0 k cap0)).run Tryz.prog wr = .ok (.string D) wr from by
        rw [HD.out]
        obtain ⟨a1, cap1, e1, hz, _, _, hc⟩ := row_slice ho
        injection e1 with e1 _ e3
        subst e1; subst e3
        have hlen := dataL_len t k
        cases a0 with
        | none =>
          obtain ⟨rfl, rfl⟩ := hz rfl
          rw [run_convert_bytes_string wr 22 9 5 none 0 0 Tryz.underlying22 (by kernel_rfl) Tryz.underlying9]
          rfl
        | some A =>
          have h := run_convert_bytes_back wr 22 9 5 A cap0 (dataL t k) Tryz.underlying22 (by kernel_rfl) Tryz.underlying9 (fun j hj => by
            obtain ⟨g, e2, _, _, h1⟩ := hc j (byteV (dataL t k)[j]) (by rw [List.getElem?_map, List.getElem?_eq_getElem hj]; rfl)
            injection e2 with e2
            subst e2
            rw [show (⟨g, 0, none⟩ : Addr).add j = ⟨g, j, none⟩ from by unfold Addr.add; split <;> simp_all]
            exact h1)
          rw [hlen] at h
          exact h)
      have hcv := HCV.out
      by_cases hl1 : (k : Int) < lg
      · have h1 : decide ((k : Int) < lg) = true := by rwa [decide_eq_true_eq]
        by_cases hl2 : (k : Int) < 3000
        · have h2 : decide ((k : Int) < 3000) = true := by rwa [decide_eq_true_eq]
          have hts : t.size = 0 := by have := HN.out; split at this <;> omega
          have h3 : decide ((0 : Int) < (t.size : Int)) = false := by rw [decide_eq_false_iff_not]; omega
          go_wp2_with fail
          go_ret
          exact ⟨rfl, HX0.out.trans HX.out⟩
        · have h2 : decide ((k : Int) < 3000) = false := by rwa [decide_eq_false_iff_not]
          go_wp2_with fail
          go_ret
          exact ⟨rfl, HX0.out.trans HX.out⟩
      · have h1 : decide ((k : Int) < lg) = false := by rwa [decide_eq_false_iff_not]
        go_wp2_with fail
        go_ret
        exact ⟨rfl, HX0.out.trans HX.out⟩
end Go.Proofs.YtldppmjjgljinaaGreatDoor

namespace Go.Proofs.YtldppmjjgljinaaGreatDoor
open Go.RowKit

set_option maxRecDepth 100000 in
set_option maxHeartbeats 2000000 in
theorem llarge_any {v : Value} {l : List ActR} {w : World} (h : ActsIn w v l) (most : Nat) (hm : most ≤ 100) :
    Calls Tryz.prog 25 #[v, .int .i64 (most : Nat)] w fun e w' => e = .returned (.bool (largeB l most)) ∧ Ext w w' := by
  obtain ⟨a, cap, rfl, hl1, hl2, hcell⟩ := h
  unfold maxLen at hl2
  have HC := Lib.hid hcell
  obtain ⟨n, hn⟩ : ∃ n, n = l.length := ⟨_, rfl⟩
  have HL := Lib.hid hn
  rw [← hn] at hl1 ⊢
  clear hcell hn
  go_enter Tryz.func25, Tryz.ntmps25
  go_wp2_with fail
  go_loopw [5] (fun iv wr => Hid (∃ k : Nat, k ≤ n ∧ k ≤ most + 1 ∧ iv = .int .i64 k ∧ (∀ y ∈ l.take k, bigA y = false) ∧ Ext w wr)) (fun iv _ => n - (intOf iv).toNat)
  case atStart => exact ⟨0, Nat.zero_le _, Nat.zero_le _, rfl, by simp, Ext.refl _⟩
  case round =>
    obtain ⟨k, hk, hkm, rfl, hall, hx⟩ := hrel.out
    clear hrel
    have HX := Lib.hid hx
    have HA := Lib.hid hall
    clear hall
    by_cases hlt : k < n
    · have h1 : decide ((k : Int) < (n : Int)) = true := by rw [decide_eq_true_eq]; omega
      by_cases hle : k ≤ most
      · have h2 : decide ((k : Int) ≤ (most : Int)) = true := by rw [decide_eq_true_eq]; omega
        obtain ⟨x, hxk⟩ : ∃ x, l[k]? = some x := ⟨_, List.getElem?_eq_getElem (by have := HL.out; omega)⟩
        obtain ⟨hok, g, o, pv, rfl, _, hcs⟩ := HC.out k x hxk
        have c1 : wr.cell? ⟨g, o + k * 7 + 1, none⟩ = some (.string x.p) := (hx.cell (lt_of_cell (hcs 1 _ rfl))).trans (hcs 1 _ rfl)
        have c2 : wr.cell? ⟨g, o + k * 7 + 2, none⟩ = some (.string x.q) := (hx.cell (lt_of_cell (hcs 2 _ rfl))).trans (hcs 2 _ rfl)
        have c3 : wr.cell? ⟨g, o + k * 7 + 3, none⟩ = some (.string x.text) := (hx.cell (lt_of_cell (hcs 3 _ rfl))).trans (hcs 3 _ rfl)
        have z1 := hok.p
        have z2 := hok.q
        have z3 := hok.text
        unfold reach at z1 z2 z3
        have HB := Lib.hid (show bigA x = (decide (1000 < x.p.size + x.q.size) || decide (10000 < x.text.size)) from rfl)
        have HTK := Lib.hid (show l.take (k + 1) = l.take k ++ [x] from by rw [List.take_add_one, hxk]; rfl)
        have HXL := Lib.hid (show x ∈ l.take (most + 1) from List.mem_of_getElem? (i := k) (by rw [List.getElem?_take, if_pos (by omega)]; exact hxk))
        generalize x.p = xp at *
        generalize x.q = xq at *
        generalize x.text = xt at *
        have q1 : IntKind.i64.wrap ((xp.size : Int) + (xq.size : Int)) = (xp.size : Int) + (xq.size : Int) := IntWalk.i64_in _ (by omega)
        clear hcs hok hxk
        by_cases hb1 : 1000 < xp.size + xq.size
        · have d1 : decide ((1000 : Int) < (xp.size : Int) + (xq.size : Int)) = true := by rw [decide_eq_true_eq]; omega
          have HR := Lib.hid (show largeB l most = true from by
            unfold largeB
            rw [List.any_eq_true.2 ⟨x, HXL.out, by rw [HB.out, decide_eq_true hb1]; rfl⟩]; rfl)
          go_wp2_with fail
          go_quiet (fail)
          go_wp2_with fail
          go_ret
          exact ⟨ret_bool HR.out.symm, HX.out.drewN _⟩
        · have d1 : decide ((1000 : Int) < (xp.size : Int) + (xq.size : Int)) = false := by rw [decide_eq_false_iff_not]; omega
          by_cases hb2 : 10000 < xt.size
          · have d2 : decide ((10000 : Int) < (xt.size : Int)) = true := by rw [decide_eq_true_eq]; omega
            have HR := Lib.hid (show largeB l most = true from by
              unfold largeB
              rw [List.any_eq_true.2 ⟨x, HXL.out, by rw [HB.out, decide_eq_true hb2, Bool.or_true]⟩]; rfl)
            go_wp2_with fail
            go_quiet (fail)
            go_wp2_with fail
            go_ret
            exact ⟨ret_bool HR.out.symm, HX.out.drewN _⟩
          · have d2 : decide ((10000 : Int) < (xt.size : Int)) = false := by rw [decide_eq_false_iff_not]; omega
            have HR := Lib.hid (show bigA x = false from by rw [HB.out, decide_eq_false hb1, decide_eq_false hb2]; rfl)
            go_wp2_with fail
            go_quiet (fail)
            go_wp2_with fail
            go_roundw
            case rel => exact ⟨k + 1, by omega, by omega, by go_num, fun y hy => by
              rw [HTK.out] at hy
              rcases List.mem_append.1 hy with hy | hy
              · exact HA.out y hy
              · rw [List.mem_singleton.1 hy]; exact HR.out, HX.out.drewN _⟩
            case measure => simp [intOf] <;> omega
      · have h2 : decide ((k : Int) ≤ (most : Int)) = false := by rw [decide_eq_false_iff_not]; omega
        have HR := Lib.hid (show decide (most < n) = largeB l most from by
          unfold largeB
          rw [decide_eq_true (show most < l.length from by have := HL.out; omega), Bool.or_true, decide_eq_true_eq]; omega)
        go_wp2_with fail
        go_ret
        exact ⟨ret_bool HR.out, HX.out⟩
    · obtain rfl : k = n := by omega
      have h1 : decide ((k : Int) < (k : Int)) = false := by simp
      have HR := Lib.hid (show decide (most < k) = largeB l most from by
        have hkl := HL.out
        unfold largeB
        have : (l.take (most + 1)).any bigA = false := by
          rw [List.any_eq_false]
          intro y hy
          have : y ∈ l.take k := by rw [hkl, List.take_length]; exact List.mem_of_mem_take hy
          rw [HA.out y this]; decide
        rw [this, Bool.false_or, ← hkl])
      go_wp2_with fail
      go_ret
      exact ⟨ret_bool HR.out, HX.out⟩
end Go.Proofs.YtldppmjjgljinaaGreatDoor
