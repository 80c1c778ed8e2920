/- caravan/block's Size, Count, part, Part: contracts; in plain words. -/
import Derived.Test.YtldppmjjgljinaaGreatDoorShaI
import Derived.Test.YtldppmjjgljinaaGreatDoorStepK
import Derived.Great.FillDense
import Derived.ChangeKeysEq

namespace Go.Proofs.YtldppmjjgljinaaGreatDoor
open Go.RowKit

/-- How long a file's blocks are. -/
def sizeN (n : Nat) : Nat := if n ≤ 512 then 16 else if n ≤ 1024 then 32 else if n ≤ 2048 then 64 else 128
def sizeZ (n : Int) : Int := if n < 0 ∨ 4096 < n then 0 else (sizeN n.toNat : Nat)
/-- How many there are. -/
def countN (n : Nat) : Nat := (n + sizeN n - 1) / sizeN n
def countZ (n : Int) : Int := if n < 0 ∨ 4096 < n then 0 else (countN n.toNat : Nat)
def partL (d : List UInt8) (i : Nat) : List UInt8 := (d.drop (i * sizeN d.length)).take (sizeN d.length)
theorem sizeN_spec (n : Nat) : (n ≤ 512 ∧ sizeN n = 16) ∨ (512 < n ∧ n ≤ 1024 ∧ sizeN n = 32) ∨ (1024 < n ∧ n ≤ 2048 ∧ sizeN n = 64) ∨ (2048 < n ∧ sizeN n = 128) := by
  unfold sizeN
  split
  · exact .inl ⟨by omega, rfl⟩
  · split
    · exact .inr (.inl ⟨by omega, by omega, rfl⟩)
    · split
      · exact .inr (.inr (.inl ⟨by omega, by omega, rfl⟩))
      · exact .inr (.inr (.inr ⟨by omega, rfl⟩))
theorem count_spec (n : Nat) (i : Nat) : i < countN n ↔ i * sizeN n < n := by
  unfold countN
  have h := sizeN_spec n
  have hs : 0 < sizeN n := by omega
  rw [Nat.lt_iff_add_one_le, Nat.le_div_iff_mul_le hs, Nat.add_mul, Nat.one_mul]
  omega
theorem count_le {n : Nat} (h : n ≤ 4096) : countN n ≤ 32 := by
  unfold countN
  rcases sizeN_spec n with ⟨h1, h2⟩ | ⟨_, h1, h2⟩ | ⟨_, h1, h2⟩ | ⟨h1, h2⟩ <;> rw [h2] <;> omega
theorem part_len (d : List UInt8) (i : Nat) : (partL d i).length = min (sizeN d.length) (d.length - i * sizeN d.length) := by simp [partL]

set_option maxHeartbeats 1000000 in
theorem bsize_any (n : Int) (w : World) (hlo : -9223372036854775808 ≤ n) (hhi : n ≤ 9223372036854775807) :
    Calls Tryz.prog 72 #[.int .i64 n] w fun e w' => e = .returned (.int .i64 (sizeZ n)) ∧ w' = w := by
  have HS := Lib.hid (show sizeZ n = if n < 0 ∨ 4096 < n then (0 : Int) else ((sizeN n.toNat : Nat) : Int) from rfl)
  generalize sizeZ n = S at *
  by_cases h1 : n < 0
  · have d1 : decide (n < 0) = true := decide_eq_true h1
    have HR := Lib.hid (HS.out.trans (if_pos (.inl h1)))
    go_enter Tryz.func72, Tryz.ntmps72
    go_wp2_with fail
    go_ret
    exact ⟨ret_int HR.out.symm, rfl⟩
  · have d1 : decide (n < 0) = false := decide_eq_false h1
    by_cases h2 : 4096 < n
    · have d2 : decide (4096 < n) = true := decide_eq_true h2
      have HR := Lib.hid (HS.out.trans (if_pos (.inr h2)))
      go_enter Tryz.func72, Tryz.ntmps72
      go_wp2_with fail
      go_ret
      exact ⟨ret_int HR.out.symm, rfl⟩
    · have d2 : decide (4096 < n) = false := decide_eq_false h2
      have HR := Lib.hid (HS.out.trans (if_neg (by omega)))
      obtain ⟨m, rfl⟩ : ∃ m : Nat, n = (m : Int) := ⟨n.toNat, by omega⟩
      have hm : m ≤ 4096 := by omega
      have hsp := sizeN_spec m
      have HR2 := Lib.hid (show S = (sizeN m : Nat) from by rw [HR.out]; simp)
      generalize sizeN m = z at *
      clear HR HS h1 h2 hlo hhi
      go_enter Tryz.func72, Tryz.ntmps72
      go_wp2_with fail
      go_loop [3] (fun sv => ∃ s : Nat, sv = .int .i64 s ∧ (s = 16 ∨ s = 32 ∨ s = 64 ∨ s = 128) ∧ s ≤ z) (fun sv => 4096 - (intOf sv).toNat)
      case atStart => exact ⟨16, rfl, .inl rfl, by omega⟩
      case round =>
        obtain ⟨s, rfl, hs, hz⟩ := hrel
        have q1 : IntKind.i64.wrap ((s : Int) * 32) = (s : Int) * 32 := IntWalk.i64_in _ (by omega)
        have q2 : IntKind.i64.wrap ((s : Int) * 2) = (s : Int) * 2 := IntWalk.i64_in _ (by omega)
        by_cases hlt : s * 32 < m
        · have d3 : decide ((s : Int) * 32 < (m : Int)) = true := by rw [decide_eq_true_eq]; omega
          go_wp2_with fail
          go_round
          case rel => exact ⟨s * 2, by congr 1, by omega, by omega⟩
          case measure => simp [intOf]; omega
        · have d3 : decide ((s : Int) * 32 < (m : Int)) = false := by rw [decide_eq_false_iff_not]; omega
          have HE := Lib.hid (show S = (s : Nat) from by rw [HR2.out]; omega)
          go_wp2_with fail
          go_ret
          exact ⟨ret_int HE.out.symm, rfl⟩

theorem bcount_any (n : Int) (w : World) (hlo : -9223372036854775808 ≤ n) (hhi : n ≤ 9223372036854775807) :
    Calls Tryz.prog 81 #[.int .i64 n] w fun e w' => e = .returned (.int .i64 (countZ n)) ∧ w' = w := by
  have HC := Lib.hid (show countZ n = if n < 0 ∨ 4096 < n then (0 : Int) else ((countN n.toNat : Nat) : Int) from rfl)
  have HB := Lib.hid (bsize_any n w hlo hhi)
  have HS := Lib.hid (show sizeZ n = if n < 0 ∨ 4096 < n then (0 : Int) else ((sizeN n.toNat : Nat) : Int) from rfl)
  generalize sizeZ n = S at *
  generalize countZ n = C at *
  by_cases h : n < 0 ∨ 4096 < n
  · have HS2 := HS.out.trans (if_pos h)
    subst HS2
    have HR := Lib.hid (HC.out.trans (if_pos h))
    clear HS HC
    go_enter Tryz.func81, Tryz.ntmps81
    go_wp2_with fail
    refine HB.out.mono ?_
    rintro e w1 ⟨rfl, hw⟩
    obtain rfl := hw.symm
    clear hw
    go_wp2_with fail
    go_ret
    exact ⟨ret_int HR.out.symm, rfl⟩
  · obtain ⟨m, rfl⟩ : ∃ m : Nat, n = (m : Int) := ⟨n.toNat, by omega⟩
    have hm : m ≤ 4096 := by omega
    have HS2 := HS.out.trans (if_neg h)
    have HR := Lib.hid (show C = ((m + sizeN m - 1) / sizeN m : Nat) from by rw [HC.out, if_neg h]; rfl)
    have hsp := sizeN_spec m
    rw [Int.toNat_natCast] at HS2
    generalize sizeN m = z at *
    subst HS2
    clear HS HC h
    have hz : 0 < z := by omega
    have z0 : ((z : Int) == 0) = false := by rw [beq_eq_false_iff_ne]; omega
    have z1 : (z : Int) ≠ 0 := by omega
    have z2 : ¬ z = 0 := by omega
    have q1 : IntKind.i64.wrap ((m : Int) + (z : Int)) = (m : Int) + (z : Int) := IntWalk.i64_in _ (by omega)
    have q2 : IntKind.i64.wrap ((m : Int) + (z : Int) - 1) = ((m + z - 1 : Nat) : Int) := (IntWalk.i64_in _ (by omega)).trans (by omega)
    obtain ⟨c, hc⟩ : ∃ c, c = (m + z - 1) / z := ⟨_, rfl⟩
    have hdv : c ≤ m + z - 1 := hc ▸ Nat.div_le_self _ _
    have q3 : ((m + z - 1 : Nat) : Int).tdiv (z : Int) = (c : Int) := by rw [hc, Int.ofNat_tdiv]
    have q5 : ((m + z - 1 : Nat) : Int) / (z : Int) = (c : Int) := by rw [hc, Int.natCast_ediv]
    have q4 : IntKind.i64.wrap (c : Int) = (c : Int) := IntWalk.i64_in _ (by omega)
    rw [← hc] at HR
    clear hc
    go_enter Tryz.func81, Tryz.ntmps81
    go_wp2_with fail
    refine HB.out.mono ?_
    rintro e w1 ⟨rfl, hw⟩
    obtain rfl := hw.symm
    clear hw
    go_wp2_with fail
    go_ret
    exact ⟨ret_int HR.out.symm, rfl⟩

/-- A part of bytes, as a slice. -/
theorem bytesOff_cut {b g o n lo cap : Nat} {w : World} {l m : List UInt8} (hm : m = (l.drop lo).take n) (hn : m.length = n) (hlo : lo + n ≤ l.length) (hc : l.length ≤ cap) (hcm : cap ≤ maxLen) (hg : g ≠ b) (hl : g < w.heap.size) (hcell : ∀ (j : Nat) x, l[j]? = some x → w.cell? ⟨g, o + j, none⟩ = some (bv x)) :
    BytesOff b w (.slice (some ⟨g, o + lo, none⟩) n (cap - lo)) m := by
  refine ⟨_, _, by rw [hn], by omega, by omega, fun _ => ⟨g, o + lo, rfl, hg, hl, fun j x hj => ?_⟩⟩
  have hjn : j < n := by have := (List.getElem?_eq_some_iff.1 hj).1; omega
  rw [hm, List.getElem?_take, if_pos hjn, List.getElem?_drop] at hj
  have := hcell (lo + j) x hj
  rwa [← Nat.add_assoc] at this

set_option maxRecDepth 100000 in
set_option maxHeartbeats 1000000 in
theorem bpart_any (b : Nat) (l : List UInt8) (v : Value) (i : Nat) (w : World) (hv : BytesOff b w v l) (hl : l.length ≤ 4096) (hi : i < countN l.length) :
    Calls Tryz.prog 82 #[v, .int .i64 i] w fun e w' => w' = w ∧ ∃ u, e = .returned u ∧ Hid (BytesOff b w u (partL l i)) := by
  obtain ⟨a, cap, rfl, h1, h2, h3⟩ := hv
  have hlt := (count_spec l.length i).1 hi
  have HB := Lib.hid (bsize_any (l.length : Int) w (by omega) (by omega))
  rw [show sizeZ (l.length : Int) = (sizeN l.length : Nat) from by unfold sizeZ; rw [if_neg (by omega)]; simp] at HB
  obtain ⟨g, o, rfl, hg, hgl, hcell⟩ := h3 (by omega)
  have hpl := part_len l i
  have HP := Lib.hid (show partL l i = (l.drop (i * sizeN l.length)).take (sizeN l.length) from rfl)
  have hsp := sizeN_spec l.length
  have hi32 := count_le hl
  obtain ⟨n, hn⟩ : ∃ n, n = l.length := ⟨_, rfl⟩
  have HN := Lib.hid hn
  rw [← hn] at h1 hlt HB hpl HP hl hsp hi hi32 ⊢
  generalize sizeN n = z at *
  obtain ⟨lo, hlo⟩ : ∃ lo, lo = i * z := ⟨_, rfl⟩
  obtain ⟨m, hm⟩ : ∃ m, m = min z (n - lo) := ⟨_, rfl⟩
  have hm1 : lo + m ≤ n ∧ m ≤ z ∧ (m = z ∨ lo + m = n) := by omega
  have HFin := Lib.hid (show BytesOff b w (.slice (some ⟨g, o + lo, none⟩) m (cap - lo)) (partL l i) from
    bytesOff_cut (by
      rw [HP.out, ← hlo, List.take_eq_take_iff, List.length_drop, ← HN.out]
      omega) (by rw [hpl, ← hlo, hm]) (by rw [← HN.out]; omega) (by rw [← HN.out]; omega) h2 hg hgl hcell)
  rw [← hlo] at hlt
  have q1 : IntKind.i64.wrap ((i : Int) * (z : Int)) = (lo : Int) := (IntWalk.i64_in _ (by rw [← Int.natCast_mul, ← hlo]; omega)).trans (by rw [← Int.natCast_mul, ← hlo])
  have q2 : IntKind.i64.wrap ((i : Int) + 1) = ((i + 1 : Nat) : Int) := (IntWalk.i64_in _ (by omega)).trans (by omega)
  have hmul : (i + 1) * z = lo + z := by rw [Nat.add_mul, Nat.one_mul, hlo]
  have q3 : IntKind.i64.wrap (((i + 1 : Nat) : Int) * (z : Int)) = ((lo + z : Nat) : Int) := (IntWalk.i64_in _ (by rw [← Int.natCast_mul, hmul]; omega)).trans (by rw [← Int.natCast_mul, hmul])
  have q4 : min (n : Int) ((lo + z : Nat) : Int) = ((lo + m : Nat) : Int) := by omega
  have q5 : (lo : Int) ≤ ((lo + m : Nat) : Int) := by omega
  have q6 : ((lo + m : Nat) : Int) ≤ (cap : Int) := by omega
  have q7 : lo + m - lo = m := by omega
  have q8 : ¬ cap = lo := by omega
  have hll : 0 ≤ (lo : Int) := by omega
  generalize hLM : lo + m = lm at *
  generalize hIE : i + 1 = i1 at q2 q3
  generalize hZE : lo + z = ze at q3 q4
  unfold maxLen at h2
  clear HP hpl hm hcell h3 hmul hlo hsp hm1 hlt hi32 hi hl HN hg hgl hLM hn hIE hZE
  go_enter Tryz.func82, Tryz.ntmps82
  go_wp2_with fail
  refine HB.out.mono ?_
  rintro e w1 ⟨rfl, hw⟩
  obtain rfl := hw.symm
  clear hw
  go_wp2_with fail
  go_ret
  exact ⟨rfl, _, rfl, HFin.out⟩

/-- The cells of digests, one behind the other. -/
def hrow (hs : List (List UInt8)) : List Value := hs.flatMap fun h => h.map bv
/-- The digests of a file's blocks. -/
def hashesL (l : List UInt8) : List (List UInt8) := (List.range (countN l.length)).map fun i => shaL (partL l i)
theorem elHash : ElemK Tryz.prog 29 45 (.agg (Array.replicate 32 (.int .u8 0))) 32 32 := ⟨by kernel_rfl, by kernel_rfl, rfl, by decide, by decide⟩
theorem hArr_list {h : List UInt8} (hl : h.length = 32) : hArr h 32 = (h.map bv).toArray := by
  unfold hArr
  rw [List.take_of_length_le (by omega)]; simp
/-- A row of one digest: what is built is the digest's own cells. -/
theorem fold_hash {A : Array Value} (hA : A.size = 32) :
    Array.foldl (fun (cs : Array Value) (x : Value × Nat) => cs.setIfInBounds x.snd x.fst) (Array.replicate 32 (Value.int .u8 0)) A.zipIdx 0 A.size = A := by
  have h := Go.Great.fill_whole (s := 32) (by decide) [.agg A] (Array.replicate 32 (Value.int .u8 0)) (fun v hv => by rw [List.mem_singleton.1 hv]; exact hA) (by simp)
  simp only [List.zipIdx_cons, List.zipIdx_nil, List.map_cons, List.map_nil, Instr.fill, Value.cells, hA, Nat.zero_mul, Nat.zero_add, Array.size_replicate] at h
  rw [if_neg (by decide)] at h
  simp only [Option.some.injEq, List.flatMap_cons, List.flatMap_nil, List.append_nil, Array.toArray_toList] at h
  rw [← hA] at h
  simpa [hA] using h
theorem grown_extB {w0 w w1 : World} {base k : Nat} {e : TypeId} {v : Value} {n : Nat} {xs : List Value} (x : Ext w0 w) (hb : w0.heap.size ≤ base) (ho : w.ownsRow base e k v n xs) (hg : w.grownBy w1 v.ownBlock) : Ext w0 w1 :=
  Below.trans x ⟨hg.os, hg.tape, hg.output, hg.size, fun i hi => hg.block i (Nat.lt_of_lt_of_le hi x.size) fun e => by have := (ho.lt _ e.symm).1; omega⟩
theorem rowk_shape {w : World} {base n k : Nat} {e : TypeId} {v : Value} {xs : List Value} (h : w.ownsRow base e k v n xs) : ∃ (a : Option Addr) (cap : Nat), v = .slice a n cap := by
  rcases h.2 with ⟨h1, h2⟩ | ⟨g, cap, cur, h1, _⟩
  · exact ⟨none, 0, by rw [h1, h2]⟩
  · exact ⟨_, cap, h1⟩
/-- Behind k blocks. -/
def HsAt (w0 : World) (l : List UInt8) (k : Nat) (v : Value) (wr : World) : Prop :=
  wr.ownsRow w0.heap.size 45 32 v k (hrow ((List.range k).map fun i => shaL (partL l i))) ∧ Ext w0 wr

set_option maxRecDepth 100000 in
set_option maxHeartbeats 2000000 in
theorem blist_any (l : List UInt8) (v : Value) (w : World) (T : ShaTabs w) (hv : BytesOff w.heap.size w v l) (hl : l.length ≤ 4096) :
    Calls Tryz.prog 23 #[v] w fun e w' => ∃ u, e = .returned (.tuple #[u, .int .i64 0]) ∧ Hid (w'.ownsRow w.heap.size 45 32 u (countN l.length) (hrow (hashesL l)) ∧ Ext w w') := by
  have HC := Lib.hid (bcount_any (l.length : Int) w (by omega) (by omega))
  rw [show countZ (l.length : Int) = (countN l.length : Nat) from by unfold countZ; rw [if_neg (by omega)]; simp] at HC
  have HP := fun wr (x : Ext w wr) (i : Nat) hi => Lib.hid (bpart_any wr.heap.size l v i wr (bytesOff_any hv x x.size) hl hi)
  have HSm := fun wr (x : Ext w wr) (u : Value) i (h : BytesOff wr.heap.size wr u (partL l i)) => Lib.hid (sum_any (partL l i) u wr (T.ext x) h (by rw [part_len]; omega))
  have hc32 := count_le hl
  obtain ⟨a, cap, rfl, h1, h2, h3⟩ := hv
  unfold maxLen at h2
  have HH := Lib.hid (show hashesL l = (List.range (countN l.length)).map fun i => shaL (partL l i) from rfl)
  generalize hashesL l = hs at *
  obtain ⟨n, hn⟩ : ∃ n, n = l.length := ⟨_, rfl⟩
  rw [← hn] at HC h1 hl HP hc32 HH ⊢
  generalize countN n = c at *
  clear h3 hn T
  have d0 : decide (4096 < (n : Int)) = false := decide_eq_false (by omega)
  have d1 : decide (4096 < n) = false := decide_eq_false (by omega)
  go_enter Tryz.func23, Tryz.ntmps23
  go_wp2_with fail
  refine HC.out.mono ?_
  rintro e w1 ⟨rfl, hw⟩
  obtain rfl := hw.symm
  clear hw
  go_wp2_with fail
  go_loopw [4, 12] (fun lv iv wr => Hid (∃ k : Nat, k ≤ c ∧ iv = .int .i64 k ∧ HsAt w l k lv wr)) (fun _ iv _ => c - (intOf iv).toNat)
  case atStart => exact ⟨0, Nat.zero_le _, rfl, World.ownsRow_nil _ _ _ _, Ext.refl _⟩
  case round =>
    obtain ⟨k, hk, rfl, ho, hx⟩ := hrel.out
    clear hrel
    have HX := Lib.hid hx
    have HO := Lib.hid ho
    obtain ⟨oa, ocap, rfl⟩ := rowk_shape ho
    by_cases hlt : k < c
    · have HPk := HP wr hx k hlt
      clear ho hx HP
      go_wp2_with fail
      refine HPk.out.mono ?_
      rintro e w2 ⟨hw, u, rfl, hu⟩
      obtain rfl := hw.symm
      have HS := HSm _ HX.out u k hu.out
      clear hw HPk hu
      have hsl := shaL_len (partL l k)
      have HR := Lib.hid (show hrow ((List.range (k + 1)).map fun i => shaL (partL l i)) = hrow ((List.range k).map fun i => shaL (partL l i)) ++ (shaL (partL l k)).map bv from by simp [hrow, List.range_succ])
      obtain ⟨H, hH⟩ : ∃ H, H = shaL (partL l k) := ⟨_, rfl⟩
      rw [← hH] at HS hsl HR
      unfold hashV at HS
      clear hH HSm
      obtain ⟨AH, hAH⟩ : ∃ A, A = hArr H 32 := ⟨_, rfl⟩
      have HAH := Lib.hid hAH
      rw [← hAH] at HS
      clear hAH
      go_wp2_with fail
      refine HS.out.mono ?_
      rintro e w3 ⟨rfl, x3⟩
      have HX3 := Lib.hid (HX.out.trans x3)
      have HO3 := Lib.hid (owns_ext HO.out x3)
      have hsz := HX3.out.size
      clear x3 HS HO HX
      have hAz : AH.size = 32 := by rw [HAH.out]; exact hArr_size _ _ hsl (by omega)
      have HBu := Lib.hid (fold_hash hAz)
      have HAl := Lib.hid (show AH.toList = H.map bv from by rw [HAH.out, hArr_list hsl])
      go_wp2_with (at_builtin; refine append_k elHash w.heap.size _ _ _ (HO3.out.alloc _) w3.heap.size (H.map bv) (by simp [hsl]) (.tmp 15) (.tmp 20) rfl rfl rfl rfl ?c1 ?c2 (by omega) (by simp; omega) ?_)
      case c1 =>
        intro j y hj
        have hf := HBu.out
        rw [show Array.replicate 32 (Value.int .u8 0) = #[Value.int .u8 0, Value.int .u8 0, Value.int .u8 0, Value.int .u8 0, Value.int .u8 0, Value.int .u8 0, Value.int .u8 0, Value.int .u8 0, Value.int .u8 0, Value.int .u8 0, Value.int .u8 0, Value.int .u8 0, Value.int .u8 0, Value.int .u8 0, Value.int .u8 0, Value.int .u8 0, Value.int .u8 0, Value.int .u8 0, Value.int .u8 0, Value.int .u8 0, Value.int .u8 0, Value.int .u8 0, Value.int .u8 0, Value.int .u8 0, Value.int .u8 0, Value.int .u8 0, Value.int .u8 0, Value.int .u8 0, Value.int .u8 0, Value.int .u8 0, Value.int .u8 0, Value.int .u8 0] from rfl] at hf
        rw [cell_alloc_new rfl, ← hj, ← HAl.out]
        rw [hAz] at hf
        simp [hf]
      case c2 =>
        intro y hy
        obtain ⟨z, _, rfl⟩ := List.mem_map.1 hy
        rfl
      intro v' w4 hown4 hg4 hrow4
      have HF := Lib.hid (show HsAt w l (k + 1) v' w4 from ⟨by rw [HR.out]; exact hown4, grown_extB (HX3.out.alloc _) (Nat.le_refl _) (HO3.out.alloc _) hg4⟩)
      clear hown4 hg4 hrow4
      go_wp2_with fail
      go_roundw
      case rel => exact ⟨k + 1, by omega, by go_num, HF.out⟩
      case measure => simp [intOf] <;> omega
    · obtain rfl : k = c := by omega
      have nlt : decide ((k : Int) < (k : Int)) = false := by simp
      clear ho hx HP HSm
      go_wp2_with fail
      go_ret2
      refine ⟨_, rfl, ?_⟩
      rw [HH.out]
      exact ⟨HO.out, HX.out⟩

/-- Two digests are compared byte by byte. -/
theorem run_eqItems_bytes (d : Nat) (w : World) (xs ys : Array Value) (a b : List UInt8) (hx : ∀ (i : Nat) x, a[i]? = some x → xs[i]? = some (bv x)) (hy : ∀ (i : Nat) x, b[i]? = some x → ys[i]? = some (bv x)) :
    ∀ (is : List Nat), (∀ i ∈ is, i < a.length ∧ i < b.length) → (Go.Op.eqItems (d + 1) 5 1 xs ys is).run Tryz.prog w = .ok (is.all fun i => a[i]? == b[i]?) w
  | [], _ => by simp [Go.Op.eqItems]
  | i :: is, h => by
    obtain ⟨h1, h2⟩ := h i List.mem_cons_self
    obtain ⟨x, hxa⟩ : ∃ x, a[i]? = some x := ⟨_, List.getElem?_eq_getElem h1⟩
    obtain ⟨y, hyb⟩ : ∃ y, b[i]? = some y := ⟨_, List.getElem?_eq_getElem h2⟩
    have p1 := run_part_plain (P := Tryz.prog) (w := w) (e := 5) (by kernel_rfl) (off := i) (hx i x hxa)
    have p2 := run_part_plain (P := Tryz.prog) (w := w) (e := 5) (by kernel_rfl) (off := i) (hy i y hyb)
    have p3 := run_equalIn_int (P := Tryz.prog) w d 5 .u8 .u8 (x.toNat : Int) (y.toNat : Int) (by kernel_rfl)
    have ih := run_eqItems_bytes d w xs ys a b hx hy is fun j hj => h j (List.mem_cons_of_mem _ hj)
    simp only [Go.Op.eqItems, Sem.run_bind, Nat.mul_one, p1, p2, bv, p3, Result.andThen_ok, List.all_cons, hxa, hyb]
    have he : ((x.toNat : Int) == (y.toNat : Int)) = (some x == some y) := by
      rw [Bool.eq_iff_iff, beq_iff_eq, beq_iff_eq, Option.some.injEq]
      constructor
      · intro h; exact UInt8.toNat_inj.1 (by omega)
      · intro h; rw [h]
    rw [he]
    cases hc : (some x == some y) with
    | false => simp
    | true => simpa using ih
theorem eq_hash (a b : List UInt8) (ha : a.length = 32) (hb : b.length = 32) (w : World) : (Go.Op.equalIn 10000 45 (.agg (hArr a 32)) (.agg (hArr b 32))).run Tryz.prog w = .ok (decide (a = b)) w := by
  obtain ⟨i, hi, _, hsz, _⟩ := info_parts elU8.info
  have hc : Tryz.prog.cellsOf 5 = 1 := by kernel_rfl
  obtain ⟨d, hd⟩ : ∃ d, d + 1 + 1 = 10000 := ⟨9998, by omega⟩
  rw [← hd, run_equalIn_array w (d + 1) _ _ (show Tryz.prog.underlying 45 = some (.array 32 5) by kernel_rfl) hi, hc]
  have key : ∀ (c : List UInt8), c.length = 32 → ∀ (i : Nat) x, c[i]? = some x → (hArr c 32)[i]? = some (bv x) := fun c hcl i x hx => by
    rw [hArr_list hcl]; simp [hx]
  have e : ((List.range 32).all fun i => a[i]? == b[i]?) = decide (a = b) := by
    rw [Bool.eq_iff_iff, List.all_eq_true, decide_eq_true_eq]
    constructor
    · intro h
      apply List.ext_getElem?
      intro i
      by_cases hi : i < 32
      · simpa using h i (List.mem_range.2 hi)
      · rw [List.getElem?_eq_none (by omega), List.getElem?_eq_none (by omega)]
    · rintro rfl i _
      simp
  rw [run_eqItems_bytes d w _ _ a b (key a ha) (key b hb) (List.range 32) fun i hi => by have := List.mem_range.1 hi; omega, e]

set_option maxRecDepth 100000 in
set_option maxHeartbeats 1000000 in
theorem bverify_any (l h : List UInt8) (v : Value) (w : World) (T : ShaTabs w) (hv : BytesOff w.heap.size w v l) (hl : l.length ≤ 1048576) (hh : h.length = 32) :
    Calls Tryz.prog 20 #[v, hashV h] w fun e w' => e = .returned (.bool (decide (shaL l = h))) ∧ Ext w w' := by
  have HS := fun w' (x : Ext w w') => Lib.hid (sum_any l v w' (T.ext x) (bytesOff_any hv x x.size) hl)
  have hsl := shaL_len l
  generalize shaL l = H at *
  have HE := Lib.hid (eq_hash H h hsl hh)
  have hz1 : (hArr H 32).size = 32 := hArr_size _ _ hsl (by omega)
  have hz2 : (hArr h 32).size = 32 := hArr_size _ _ hh (by omega)
  have HZ2 := Lib.hid hz2
  obtain ⟨r, hr⟩ : ∃ r, r = decide (H = h) := ⟨_, rfl⟩
  rw [← hr] at HE ⊢
  unfold hashV at HS ⊢
  generalize hArr H 32 = A at *
  generalize hArr h 32 = B at *
  clear hr hsl hh T hv
  have HB := Lib.hid (show ∀ w', (∃ y : After (w.alloc (.cells B 45)), w' = y.v) → w'.heap[w.heap.size]? = some (.cells B 45 (0, 0)) from by
    rintro _ ⟨y, rfl⟩
    exact (y.x.block (by simp)).trans (block_alloc_new _ _))
  have HX1 := Lib.hid ((Ext.refl w).alloc (.cells B 45))
  have heq := HE.out
  go_enter Tryz.func20, Tryz.ntmps20
  go_wp2_with fail
  refine wp_region_after (by kernel_rfl) (by kernel_rfl) ?_
  repeat (first | (refine wpQuiet_load_row rfl 45 (.tmp 3) rfl w.heap.size rfl 45 B (0, 0) _ HB.out Tryz.underlying45 rfl (by rw [HZ2.out]; kernel_rfl) ?_; go_frame) | go_big_quiet_step (exact After.of (HS _ (HX1.out.trans (After.x _))).out))
  refine wpQuiet_nil ?_
  rintro _ ⟨y, rfl⟩
  go_wp2_with fail
  go_ret
  exact ⟨rfl, HX1.out.trans y.x⟩
end Go.Proofs.YtldppmjjgljinaaGreatDoor
