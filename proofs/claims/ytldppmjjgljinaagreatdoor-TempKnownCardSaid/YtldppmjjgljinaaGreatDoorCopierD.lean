/- caravan/copier's wanted, Length: contracts. caravan/copier's placed, right: contracts. caravan/copier's step: contract, where no finder is given. caravan/copier's Plan: contract, where no finder is given. slices.Clone of bytes and of digests; caravan/block's Part: contracts. -/
import Derived.Test.YtldppmjjgljinaaGreatDoorBlock
import Derived.Test.YtldppmjjgljinaaGreatDoorIterB
import Derived.BigQuiet
namespace Go.Proofs.YtldppmjjgljinaaGreatDoor
open Go.RowKit

/-- A record, as far as a wanted file is told by it. -/
structure RecS where
  path : ByteArray
  kind : Int
  del : Bool
  size : Int
  time : Int
  bs : Int
  hs : List (List UInt8)
/-- A record's cells. -/
structure RecC (C : Array Value) (r : RecS) (bl : Value) : Prop where
  n : C.size = 27
  c0 : C[0]? = some (.string r.path)
  c1 : C[1]? = some (.int .i64 r.kind)
  c2 : C[2]? = some (.bool r.del)
  c3 : C[3]? = some (.int .i64 r.size)
  c4 : C[4]? = some (.int .i64 r.time)
  c22 : C[22]? = some (.int .i64 r.bs)
  c23 : C[23]? = some bl
/-- The digests that a record has. -/
def HashesAt (w : World) (bl : Value) (hs : List (List UInt8)) : Prop :=
  ∃ a cap, bl = .slice a hs.length cap ∧ hs.length ≤ cap ∧ cap ≤ 9223372036854775807 ∧ ∀ (i : Nat) h, hs[i]? = some h → h.length = 32 ∧ ∃ g o, a = some ⟨g, o, none⟩ ∧ g < w.heap.size ∧ w.rangeAt g (o + i * 32) (h.map bv)
theorem HashesAt.ext {w w' : World} {bl : Value} {hs : List (List UInt8)} (h : HashesAt w bl hs) (x : Ext w w') : HashesAt w' bl hs := by
  obtain ⟨a, cap, h1, h2, h3, h4⟩ := h
  refine ⟨a, cap, h1, h2, h3, fun i y hy => ?_⟩
  obtain ⟨h5, g, o, h6, h7, h8⟩ := h4 i y hy
  exact ⟨h5, g, o, h6, Nat.lt_of_lt_of_le h7 x.size, fun j u hj => (x.cell h7).trans (h8 j u hj)⟩
def wantedB (del k1 b1 b2 b3 b4 : Bool) : Int := if del || k1 then 11 else if b1 || b2 || b3 || b4 then 4 else 0
def RecS.wanted (r : RecS) : Int := wantedB r.del (r.kind != 1) (decide (r.size < 0)) (decide (4096 < r.size)) (r.bs != sizeZ r.size) ((r.hs.length : Int) != countZ r.size)
def RecS.lenAt (r : RecS) (i : Int) : Int := if r.wanted = 0 ∧ 0 ≤ i ∧ i < r.hs.length then min r.bs (r.size - i * r.bs) else 0

set_option maxRecDepth 100000 in
set_option maxHeartbeats 4000000 in
theorem cwanted_any (r : RecS) (C : Array Value) (bl : Value) (w : World) (hC : RecC C r bl) (hb : ∃ a cap, bl = .slice a r.hs.length cap) (hlo : -9223372036854775808 ≤ r.size) (hhi : r.size ≤ 9223372036854775807) :
    Calls Tryz.prog 145 #[.agg C] w fun e w' => e = .returned (.int .i64 r.wanted) ∧ Ext w w' := by
  obtain ⟨a, cap, rfl⟩ := hb
  have HW := Lib.hid (show r.wanted = wantedB r.del (r.kind != 1) (decide (r.size < 0)) (decide (4096 < r.size)) (r.bs != sizeZ r.size) ((r.hs.length : Int) != countZ r.size) from rfl)
  have HSz := fun w' => Lib.hid (bsize_any r.size w' hlo hhi)
  have HCn := fun w' => Lib.hid (bcount_any r.size w' hlo hhi)
  have hbk := block_alloc_new w (.cells C 31 (0, 0))
  have HX := Lib.hid ((Ext.refl w).alloc (.cells C 31))
  have c1 := (cellB (k := 1) hbk).trans hC.c1
  have c2 := (cellB (k := 2) hbk).trans hC.c2
  have c3 := (cellB (k := 3) hbk).trans hC.c3
  have c22 := (cellB (k := 22) hbk).trans hC.c22
  have c23 := (cellB (k := 23) hbk).trans hC.c23
  generalize r.wanted = W at *
  generalize sizeZ r.size = S at *
  generalize countZ r.size = N at *
  generalize r.hs.length = n at *
  generalize r.bs = bs at *
  generalize r.size = z at *
  generalize r.kind = k at *
  generalize r.del = del at *
  clear hbk hC hlo hhi
  cases del
  case' false =>
    cases hk : (k != 1)
    case' false =>
      cases h1 : decide (z < 0)
      case' false =>
        cases h2 : decide (4096 < z)
        case' false =>
          cases h3 : (bs != S)
          case' false =>
            cases h4 : ((n : Int) != N)
  all_goals
    try simp only [*] at HW
    go_enter Tryz.func145, Tryz.ntmps145
    go_wp2_with fail
    first
    | (go_ret
       exact ⟨ret_int (HW.out.symm), HX.out⟩)
    | (have q3 := After.cell c3
       have q22 := After.cell c22
       have q23 := After.cell c23
       refine wp_region_after (by kernel_rfl) (by kernel_rfl) ?_
       repeat (go_big_quiet_step (first | (go_at_call 72; exact After.same (HSz _).out) | (go_at_call 81; exact After.same (HCn _).out)))
       refine wpQuiet_nil ?_
       rintro _ ⟨y, rfl⟩
       clear q3 q22 q23
       go_wp2_with fail
       go_ret
       exact ⟨ret_int (HW.out.symm), HX.out.trans y.x⟩)
/-- What a wanted file's record tells. -/
structure RecS.Good (r : RecS) (N : Nat) : Prop where
  del : r.del = false
  kind : r.kind = 1
  size : r.size = (N : Int)
  small : N ≤ 4096
  bs : r.bs = (sizeN N : Int)
  count : r.hs.length = countN N
theorem RecS.good {r : RecS} (h : r.wanted = 0) : ∃ N, r.Good N := by
  unfold RecS.wanted wantedB at h
  split at h
  · cases h
  · rename_i h1
    split at h
    · cases h
    · rename_i h2
      simp only [Bool.or_eq_true, decide_eq_true_eq, bne_iff_ne, ne_eq, not_or, Bool.not_eq_true, Decidable.not_not] at h1 h2
      obtain ⟨⟨⟨h3, h4⟩, h5⟩, h6⟩ := h2
      refine ⟨r.size.toNat, h1.1, h1.2, by omega, by omega, ?_, ?_⟩
      · rw [h5]; unfold sizeZ; rw [if_neg (by omega)]
      · unfold countZ at h6; rw [if_neg (by omega)] at h6; omega
theorem RecS.Good.wanted {r : RecS} {N : Nat} (g : r.Good N) : r.wanted = 0 := by
  have h1 : sizeZ r.size = (sizeN N : Int) := by unfold sizeZ; rw [g.size, if_neg (by have := g.small; omega)]; simp
  have h2 : countZ r.size = (countN N : Int) := by unfold countZ; rw [g.size, if_neg (by have := g.small; omega)]; simp
  unfold RecS.wanted wantedB
  rw [h1, h2, g.del, g.kind, g.bs, g.count, g.size, decide_eq_false (by omega), decide_eq_false (by have := g.small; omega)]
  simp
/-- How long a block is. -/
def lenN (N i : Nat) : Nat := min (sizeN N) (N - i * sizeN N)
theorem RecS.Good.len {r : RecS} {N : Nat} (g : r.Good N) {i : Nat} (h : i < countN N) : r.lenAt i = (lenN N i : Nat) := by
  unfold RecS.lenAt lenN
  have h1 := (count_spec N i).1 h
  rw [if_pos ⟨g.wanted, by omega, by rw [g.count]; omega⟩, g.bs, g.size, ← Int.natCast_mul]
  omega

set_option maxRecDepth 100000 in
set_option maxHeartbeats 4000000 in
theorem clength_any (r : RecS) (C : Array Value) (bl : Value) (i : Int) (w : World) (hC : RecC C r bl) (hb : ∃ a cap, bl = .slice a r.hs.length cap) (hlo : -9223372036854775808 ≤ r.size) (hhi : r.size ≤ 9223372036854775807) :
    Calls Tryz.prog 77 #[.agg C, .int .i64 i] w fun e w' => e = .returned (.int .i64 (r.lenAt i)) ∧ Ext w w' := by
  have HWt := fun w' => Lib.hid (cwanted_any r C bl w' hC hb hlo hhi)
  obtain ⟨a, cap, rfl⟩ := hb
  have HL := Lib.hid (show r.lenAt i = if r.wanted = 0 ∧ 0 ≤ i ∧ i < r.hs.length then min r.bs (r.size - i * r.bs) else 0 from rfl)
  have HGd := Lib.hid (fun h => RecS.good (r := r) h)
  have HCz := Lib.hid (show (Tryz.prog.info? 31).map (·.size) = some C.size from by rw [hC.n]; kernel_rfl)
  have HC := Lib.hid hC
  have HX := Lib.hid ((Ext.refl w).alloc (.cells C 31))
  have HB := Lib.hid (block_alloc_new w (.cells C 31 (0, 0)))
  generalize hLL : r.lenAt i = L at *
  clear hLL
  obtain ⟨W, hW⟩ : ∃ W, W = r.wanted := ⟨_, rfl⟩
  have HWe := Lib.hid hW
  rw [← hW] at HWt HL HGd
  clear hW hC
  by_cases h0 : W = 0
  · obtain ⟨N, hG⟩ := HGd.out h0
    subst h0
    have hG1 := hG.size
    have hG2 := hG.small
    have hG3 := hG.bs
    have hG4 := hG.count
    have hsp := sizeN_spec N
    have hcs := count_spec N
    clear hG HGd HWe
    by_cases h1 : i < 0
    · have d1 : decide (i < 0) = true := decide_eq_true h1
      have HR := Lib.hid (HL.out.trans (if_neg (by omega)))
      clear hcs hsp HL
      go_enter Tryz.func77, Tryz.ntmps77
      go_wp2_with (refine wpList_load_row rfl 31 (.tmp 2) rfl w.heap.size rfl 31 C (0, 0) _ HB.out Tryz.underlying31 rfl HCz.out ?_; go_frame)
      refine (HWt _).out.mono ?_
      rintro e w1 ⟨rfl, x1⟩
      have HX1 := Lib.hid (HX.out.trans x1)
      clear x1
      go_wp2_with fail
      go_ret
      exact ⟨ret_int HR.out.symm, HX1.out⟩
    · have d1 : decide (i < 0) = false := decide_eq_false h1
      obtain ⟨n, hn⟩ : ∃ n, n = r.hs.length := ⟨_, rfl⟩
      have c23 : ∀ w', Ext (w.alloc (.cells C 31 (0, 0))) w' → w'.cell? ⟨w.heap.size, 23, none⟩ = some (.slice a n cap) := fun w' x => by
        rw [hn]
        exact (cellB (k := 23) ((x.block (by simp)).trans HB.out)).trans HC.out.c23
      by_cases h2 : i < n
      · have d2 : decide ((n : Int) ≤ i) = false := decide_eq_false (by omega)
        obtain ⟨m, rfl⟩ : ∃ m : Nat, i = (m : Int) := ⟨i.toNat, by omega⟩
        have hmz := (hcs m).1 (by omega)
        have HR := Lib.hid (HL.out.trans (if_pos ⟨rfl, by omega, by omega⟩))
        obtain ⟨z, hz⟩ : ∃ z : Nat, z = sizeN N := ⟨_, rfl⟩
        rw [← hz] at hsp hmz hG3
        have c3 : ∀ w', Ext (w.alloc (.cells C 31 (0, 0))) w' → w'.cell? ⟨w.heap.size, 3, none⟩ = some (.int .i64 (N : Nat)) := fun w' x => by
          rw [← hG1]
          exact (cellB (k := 3) ((x.block (by simp)).trans HB.out)).trans HC.out.c3
        have c22 : ∀ w', Ext (w.alloc (.cells C 31 (0, 0))) w' → w'.cell? ⟨w.heap.size, 22, none⟩ = some (.int .i64 (z : Nat)) := fun w' x => by
          rw [← hG3]
          exact (cellB (k := 22) ((x.block (by simp)).trans HB.out)).trans HC.out.c22
        have HQ := Lib.hid (And.intro c3 (And.intro c22 c23))
        obtain ⟨lo, hlo2⟩ : ∃ lo, lo = m * z := ⟨_, rfl⟩
        rw [← hlo2] at hmz
        have q1 : IntKind.i64.wrap ((m : Int) * (z : Int)) = (lo : Int) := (IntWalk.i64_in _ (by rw [← Int.natCast_mul, ← hlo2]; omega)).trans (by rw [← Int.natCast_mul, ← hlo2])
        have q2 : IntKind.i64.wrap ((N : Int) - (lo : Int)) = ((N - lo : Nat) : Int) := (IntWalk.i64_in _ (by omega)).trans (by omega)
        have HR2 := Lib.hid (show L = min (z : Int) ((N - lo : Nat) : Int) from by
          rw [HR.out, hG1, hG3, ← Int.natCast_mul, ← hlo2]; omega)
        generalize N - lo = nl at *
        clear c3 c22 c23 hcs hsp hG1 hG2 hG3 hG4 HL HR hmz hlo2 hz h1
        go_enter Tryz.func77, Tryz.ntmps77
        go_wp2_with (refine wpList_load_row rfl 31 (.tmp 2) rfl w.heap.size rfl 31 C (0, 0) _ HB.out Tryz.underlying31 rfl HCz.out ?_; go_frame)
        refine (HWt _).out.mono ?_
        rintro e w1 ⟨rfl, x1⟩
        have HX1 := Lib.hid (HX.out.trans x1)
        have k3 := HQ.out.1 _ x1
        have k22 := HQ.out.2.1 _ x1
        have k23 := HQ.out.2.2 _ x1
        clear x1
        go_wp2_with fail
        go_ret
        exact ⟨ret_int HR2.out.symm, HX1.out⟩
      · have d2 : decide ((n : Int) ≤ i) = true := decide_eq_true (by omega)
        have HR := Lib.hid (HL.out.trans (if_neg (by omega)))
        have HQ := Lib.hid c23
        clear c23 hcs hsp HL
        go_enter Tryz.func77, Tryz.ntmps77
        go_wp2_with (refine wpList_load_row rfl 31 (.tmp 2) rfl w.heap.size rfl 31 C (0, 0) _ HB.out Tryz.underlying31 rfl HCz.out ?_; go_frame)
        refine (HWt _).out.mono ?_
        rintro e w1 ⟨rfl, x1⟩
        have HX1 := Lib.hid (HX.out.trans x1)
        have k23 := HQ.out _ x1
        clear x1
        go_wp2_with fail
        go_ret
        exact ⟨ret_int HR.out.symm, HX1.out⟩
  · have HR := Lib.hid (HL.out.trans (if_neg (by omega)))
    have d0 : (W != 0) = true := by rw [bne_iff_ne]; exact h0
    have d0' : (W == 0) = false := by rw [beq_eq_false_iff_ne]; exact h0
    clear HL HGd HWe h0
    go_enter Tryz.func77, Tryz.ntmps77
    go_wp2_with (refine wpList_load_row rfl 31 (.tmp 2) rfl w.heap.size rfl 31 C (0, 0) _ HB.out Tryz.underlying31 rfl HCz.out ?_; go_frame)
    refine (HWt _).out.mono ?_
    rintro e w1 ⟨rfl, x1⟩
    have HX1 := Lib.hid (HX.out.trans x1)
    clear x1
    go_wp2_with fail
    go_ret
    exact ⟨ret_int HR.out.symm, HX1.out⟩
end Go.Proofs.YtldppmjjgljinaaGreatDoor

namespace Go.Proofs.YtldppmjjgljinaaGreatDoor
open Go.RowKit

/-- A struct or array that lies anywhere in a row, loaded under a guard that holds. -/
theorem wpList_load_at_g {P : Program} {ops : Array Oper} {rest : List Oper} {op : Oper} {a : Act} {w : World} {Q : Exit → Act → World → Prop} (hw : Region.wanted op (yielded ops a.tmps) = true) (ty : TypeId) (x : Operand) (ho : op.op = .load ty x)
    (b o : Nat) (hx : a.eval x = .pointer (some ⟨b, o, none⟩)) (cs : Array Value) (d : TypeDesc) (hc : w.rangeAt b o cs.toList)
    (hu : P.underlying ty = some d) (hd : d.isRow = true) (hi : (P.info? ty).map (·.size) = some cs.size)
    (h : wpList P ops Q rest (a.put op.dst (.agg cs)) w) : wpList P ops Q (op :: rest) a w := by
  unfold wpList
  rw [if_pos hw]
  exact .inl (wp_load_mid ty x ho b o hx cs.toList d hc hu hd (by rw [hi]; simp) (by simpa using h))
/-- What of a temp stands where a block is to stand. -/
def placedL (N : Nat) (t : List UInt8) (i : Nat) : List UInt8 := if i * sizeN N + lenN N i ≤ t.length then (t.drop (i * sizeN N)).take (lenN N i) else []
theorem lenN_pos {N i : Nat} (h : i < countN N) : 1 ≤ lenN N i := by
  have h1 := (count_spec N i).1 h
  have h2 := sizeN_spec N
  unfold lenN
  omega
theorem lenN_le (N i : Nat) : lenN N i ≤ 128 := by
  have h2 := sizeN_spec N
  unfold lenN
  omega
theorem BytesOff.nil (b : Nat) (w : World) : BytesOff b w (.slice none 0 0) [] := ⟨none, 0, rfl, Nat.le_refl _, by unfold maxLen; omega, fun h => by simp at h⟩

set_option maxRecDepth 100000 in
set_option maxHeartbeats 4000000 in
theorem cplaced_any (r : RecS) (C : Array Value) (bl : Value) (N i : Nat) (t : List UInt8) (v : Value) (b : Nat) (w0 : World) (hC : RecC C r bl) (hb : ∃ a cap, bl = .slice a r.hs.length cap) (G : r.Good N) (hi : i < countN N) (hv : BytesOff b w0 v t) :
    ∃ u, (∀ w, Ext w0 w → Calls Tryz.prog 197 #[.agg C, .int .i64 i, v] w fun e w' => e = .returned u ∧ Ext w w') ∧ ∀ w' b', Ext w0 w' → w'.heap.size ≤ b' → BytesOff b' w' u (placedL N t i) := by
  have hsm := G.small
  have HLen := fun w' => Lib.hid (clength_any r C bl i w' hC hb (by rw [G.size]; omega) (by rw [G.size]; omega))
  rw [G.len hi] at HLen
  have hl1 := lenN_pos hi
  have hl2 := lenN_le N i
  have hmz := (count_spec N i).1 hi
  have hsp := sizeN_spec N
  have HP := Lib.hid (show placedL N t i = if i * sizeN N + lenN N i ≤ t.length then (t.drop (i * sizeN N)).take (lenN N i) else [] from rfl)
  have HCz := Lib.hid (show (Tryz.prog.info? 31).map (·.size) = some C.size from by rw [hC.n]; kernel_rfl)
  have HB := fun w => Lib.hid (block_alloc_new w (.cells C 31 (0, 0)))
  have HC22 := fun (w : World) => Lib.hid (show (w.alloc (.cells C 31 (0, 0))).cell? ⟨w.heap.size, 22, none⟩ = some (.int .i64 (sizeN N : Nat)) from by
    rw [← G.bs]; exact (cellB (k := 22) (HB w).out).trans hC.c22)
  obtain ⟨a, cap, rfl, h1, h2, h3⟩ := hv
  have hcap := h2
  unfold maxLen at h2
  have HT3 := Lib.hid h3
  generalize placedL N t i = pl at *
  generalize lenN N i = m at *
  obtain ⟨z, hz⟩ : ∃ z : Nat, z = sizeN N := ⟨_, rfl⟩
  rw [← hz] at hsp hmz HC22 HP
  obtain ⟨lo, hlo⟩ : ∃ lo, lo = i * z := ⟨_, rfl⟩
  rw [← hlo] at hmz HP
  obtain ⟨n, hn⟩ : ∃ n, n = t.length := ⟨_, rfl⟩
  have HN := Lib.hid hn
  rw [← hn] at h1 HP ⊢
  have q1 : IntKind.i64.wrap ((i : Int) * (z : Int)) = (lo : Int) := (IntWalk.i64_in _ (by rw [← Int.natCast_mul, ← hlo]; omega)).trans (by rw [← Int.natCast_mul, ← hlo])
  obtain ⟨hi2, hhi2⟩ : ∃ hi2, hi2 = lo + m := ⟨_, rfl⟩
  have q2 : IntKind.i64.wrap ((lo : Int) + (m : Int)) = (hi2 : Int) := (IntWalk.i64_in _ (by omega)).trans (by omega)
  rw [← hhi2] at HP
  by_cases hle : hi2 ≤ n
  · have d1 : decide ((n : Int) < (hi2 : Int)) = false := decide_eq_false (by omega)
    have d2 : decide (n < hi2) = false := decide_eq_false (by omega)
    have HR := Lib.hid (HP.out.trans (if_pos hle))
    obtain ⟨g, o, rfl, hg, hgl, hcell⟩ := HT3.out (by rw [← HN.out]; omega)
    refine ⟨.slice (some ⟨g, o + lo, none⟩) m (cap - lo), fun w hx0 => ?_, fun w' b' x hb' =>
      bytesOff_any (bytesOff_cut (b := b) HR.out (by rw [HR.out, List.length_take, List.length_drop, ← HN.out]; omega) (by rw [← HN.out]; omega) (by rw [← HN.out]; exact h1) hcap hg hgl hcell) x (Nat.le_trans x.size hb')⟩
    have HX := Lib.hid ((Ext.refl w).alloc (.cells C 31))
    have HBw := HB w
    have c22 := (HC22 w).out
    have s1 : (lo : Int) ≤ (hi2 : Int) := by omega
    have s2 : (hi2 : Int) ≤ (cap : Int) := by omega
    have s3 : hi2 - lo = m := by omega
    have s4 : ¬ cap = lo := by omega
    have s5 : 0 ≤ (lo : Int) := by omega
    clear HP HR hmz hsp hl1 hl2 hcell HT3 hg hgl hlo hz hhi2 hle hcap hi hn hsm G hC HN h3 HB HC22 hx0
    go_enter Tryz.func197, Tryz.ntmps197
    go_wp2_with (refine wpList_load_row rfl 31 (.tmp 3) rfl w.heap.size rfl 31 C (0, 0) _ HBw.out Tryz.underlying31 rfl HCz.out ?_; go_frame)
    refine (HLen _).out.mono ?_
    rintro e w1 ⟨rfl, x1⟩
    have HX1 := Lib.hid (HX.out.trans x1)
    clear x1
    go_wp2_with fail
    go_ret
    exact ⟨rfl, HX1.out⟩
  · have d1 : decide ((n : Int) < (hi2 : Int)) = true := decide_eq_true (by omega)
    have d2 : decide (n < hi2) = true := decide_eq_true (by omega)
    have HR := Lib.hid (HP.out.trans (if_neg hle))
    refine ⟨.slice none 0 0, fun w hx0 => ?_, fun w' b' x hb' => by rw [HR.out]; exact BytesOff.nil b' _⟩
    have HX := Lib.hid ((Ext.refl w).alloc (.cells C 31))
    have HBw := HB w
    have c22 := (HC22 w).out
    clear HP HR hmz hsp hl1 hl2 HT3 hlo hz hhi2 hle hcap hi hn hsm G hC HN h3 HB HC22 hx0
    go_enter Tryz.func197, Tryz.ntmps197
    go_wp2_with (refine wpList_load_row rfl 31 (.tmp 3) rfl w.heap.size rfl 31 C (0, 0) _ HBw.out Tryz.underlying31 rfl HCz.out ?_; go_frame)
    refine (HLen _).out.mono ?_
    rintro e w1 ⟨rfl, x1⟩
    have HX1 := Lib.hid (HX.out.trans x1)
    clear x1
    go_wp2_with fail
    go_ret
    exact ⟨rfl, HX1.out⟩
/-- Are bytes a block's? -/
def rightB (N : Nat) (hs : List (List UInt8)) (i : Nat) (l : List UInt8) : Bool := decide (l.length = lenN N i) && decide (hs[i]? = some (shaL l))

set_option maxRecDepth 100000 in
set_option maxHeartbeats 4000000 in
theorem cright_any (r : RecS) (C : Array Value) (bl : Value) (N i : Nat) (l : List UInt8) (u : Value) (w : World) (T : ShaTabs w) (hC : RecC C r bl) (hb : HashesAt w bl r.hs) (G : r.Good N) (hi : i < countN N) (hu : BytesOff w.heap.size w u l) (hl : l.length ≤ 1048576) :
    Calls Tryz.prog 196 #[.agg C, .int .i64 i, u] w fun e w' => e = .returned (.bool (rightB N r.hs i l)) ∧ Ext w w' := by
  have hsm := G.small
  obtain ⟨ha, hcap, rfl, hb1, hb2, hb3⟩ := hb
  have HLen := fun w' => Lib.hid (clength_any r C _ i w' hC ⟨_, _, rfl⟩ (by rw [G.size]; omega) (by rw [G.size]; omega))
  rw [G.len hi] at HLen
  obtain ⟨h, hh⟩ : ∃ h, r.hs[i]? = some h := ⟨_, List.getElem?_eq_getElem (by rw [G.count]; exact hi)⟩
  obtain ⟨hh32, g, o, rfl, hgl, hrg⟩ := hb3 i h hh
  have HVf := fun w' (x : Ext w w') => Lib.hid (bverify_any l h u w' (T.ext x) (bytesOff_any hu x x.size) hl hh32)
  have HRB := Lib.hid (show rightB N r.hs i l = (decide (l.length = lenN N i) && decide (shaL l = h)) from by
    unfold rightB
    rw [hh]
    congr 1
    rw [decide_eq_decide, Option.some.injEq]
    exact eq_comm)
  have HAl := Lib.hid (show (hArr h 32).toList = h.map bv from by rw [hArr_list hh32])
  have HAz := Lib.hid (show (Tryz.prog.info? 45).map (·.size) = some (hArr h 32).size from by rw [hArr_size _ _ hh32 (by omega)]; kernel_rfl)
  have HRg := Lib.hid (show ∀ w', Ext w w' → w'.rangeAt g (o + i * 32) (hArr h 32).toList from fun w' x j y hj => by
    rw [HAl.out] at hj
    exact (x.cell hgl).trans (hrg j y hj))
  have HCz := Lib.hid (show (Tryz.prog.info? 31).map (·.size) = some C.size from by rw [hC.n]; kernel_rfl)
  have HX := Lib.hid ((Ext.refl w).alloc (.cells C 31))
  have HB := Lib.hid (block_alloc_new w (.cells C 31 (0, 0)))
  have HC23 := Lib.hid hC.c23
  have hin : (i : Int) < (r.hs.length : Int) := by rw [G.count]; omega
  have hin2 : i < r.hs.length := by omega
  obtain ⟨a, cap, rfl, h1, h2, _⟩ := hu
  unfold maxLen at h2
  unfold hashV at HVf
  generalize rightB N r.hs i l = R at *
  generalize hArr h 32 = A at *
  generalize lenN N i = m at *
  generalize r.hs.length = n at *
  obtain ⟨q, hq⟩ : ∃ q, q = decide (shaL l = h) := ⟨_, rfl⟩
  rw [← hq] at HVf HRB
  clear hq hC T hrg hh G hb3 HAl hsm hh32
  by_cases hlm : l.length = m
  · have e1 : ((l.length : Int) == (m : Int)) = true := by rw [beq_iff_eq]; omega
    have HR := Lib.hid (show R = q from by rw [HRB.out, decide_eq_true hlm, Bool.true_and])
    clear HRB
    generalize l.length = ln at *
    subst hlm
    go_enter Tryz.func196, Tryz.ntmps196
    go_wp2_with (refine wpList_load_row rfl 31 (.tmp 3) rfl w.heap.size rfl 31 C (0, 0) _ HB.out Tryz.underlying31 rfl HCz.out ?_; go_frame)
    refine (HLen _).out.mono ?_
    rintro e w1 ⟨rfl, x1⟩
    have HX1 := Lib.hid (HX.out.trans x1)
    have k23 : w1.cell? ⟨w.heap.size, 23, none⟩ = some (.slice (some ⟨g, o, none⟩) n hcap) := (cellB (k := 23) ((x1.block (by simp)).trans HB.out)).trans HC23.out
    have HR1 := Lib.hid (HRg.out _ HX1.out)
    clear x1 HLen
    go_wp2_with (refine wpList_load_at_g (by simp [Region.wanted, yielded]) 45 (.tmp 18) rfl g (o + i * 32) rfl A _ HR1.out Tryz.underlying45 rfl HAz.out ?_; go_frame)
    refine (HVf _ HX1.out).out.mono ?_
    rintro e w2 ⟨rfl, x2⟩
    have HX2 := Lib.hid (HX1.out.trans x2)
    clear x2
    go_wp2_with fail
    go_ret
    exact ⟨ret_bool HR.out.symm, HX2.out⟩
  · have e1 : ((l.length : Int) == (m : Int)) = false := by rw [beq_eq_false_iff_ne]; omega
    have HR := Lib.hid (show R = false from by rw [HRB.out, decide_eq_false hlm, Bool.false_and])
    clear HRB
    generalize l.length = ln at *
    go_enter Tryz.func196, Tryz.ntmps196
    go_wp2_with (refine wpList_load_row rfl 31 (.tmp 3) rfl w.heap.size rfl 31 C (0, 0) _ HB.out Tryz.underlying31 rfl HCz.out ?_; go_frame)
    refine (HLen _).out.mono ?_
    rintro e w1 ⟨rfl, x1⟩
    have HX1 := Lib.hid (HX.out.trans x1)
    clear x1
    go_wp2_with fail
    go_ret
    exact ⟨ret_bool HR.out.symm, HX1.out⟩
theorem results_row3 {P : Program} {fn : Func} {p u v : Tmp} {ty : TypeId} (h : fn.results = #[.tmp u, .cell p ty, .tmp v]) (tmps : Array Value) (w : World) (g : Nat) (t : TypeId) (cs : Array Value) (fr : Nat × Nat) (d : TypeDesc)
    (hp : tmps.getD p undef = .pointer (some ⟨g, 0, none⟩)) (hg : w.heap[g]? = some (.cells cs t fr))
    (hu : P.underlying ty = some d) (hd : (match d with | .struct _ | .array _ _ => true | _ => false) = true) (hi : (P.info? ty).map (·.size) = some cs.size) :
    (results fn tmps).run P w = .ok (.tuple #[tmps.getD u undef, .agg cs, tmps.getD v undef]) w := by
  have hp' : tmps[p]?.getD undef = .pointer (some ⟨g, 0, none⟩) := by simpa using hp
  simp [results, h, hp', asAddr, Result.andThen, run_loadVar_row w g t ty cs fr d hg hu hd hi]
theorem bfis_nil (w : World) : Calls Tryz.prog 147 #[.pointer none] w fun e w' => e = .returned (.bool false) ∧ w' = w := by
  go_enter Tryz.func147, Tryz.ntmps147
  go_wp2_with fail
  go_ret
  exact ⟨rfl, rfl⟩
set_option maxRecDepth 100000 in
set_option maxHeartbeats 1000000 in
theorem bfind_nil (A : Array Value) (w : World) : Calls Tryz.prog 78 #[.pointer none, .agg A] w fun e w' => e = .returned (.tuple #[.slice none 0 0, .agg #[.string ⟨#[]⟩, .int .i64 0], .bool false]) ∧ Ext w w' := by
  have HI := fun w' => Lib.hid (bfis_nil w')
  have HX := Lib.hid (((Ext.refl w).alloc (.cells A 45)).alloc (.cells #[.string ⟨#[]⟩, .int .i64 0] 126))
  have hb : ((w.alloc (.cells A 45)).alloc (.cells #[.string ⟨#[]⟩, .int .i64 0] 126)).heap[w.heap.size + 1]? = some (.cells #[.string ⟨#[]⟩, .int .i64 0] 126 (0, 0)) := by
    have := block_alloc_new (w.alloc (.cells A 45)) (.cells #[.string ⟨#[]⟩, .int .i64 0] 126 (0, 0))
    rwa [size_alloc] at this
  have HB := Lib.hid hb
  clear hb
  go_enter Tryz.func78, Tryz.ntmps78
  go_wp2_with fail
  refine wp_region_after (by kernel_rfl) (by kernel_rfl) ?_
  repeat (go_big_quiet_step (exact After.same (HI _).out))
  refine wpQuiet_nil ?_
  rintro _ ⟨y, rfl⟩
  have hb := (y.x.block (ltB HB.out)).trans HB.out
  have k0 := cellB (k := 0) hb
  have k1 := cellB (k := 1) hb
  have f0 := frozenB (k := 0) hb
  have f1 := frozenB (k := 1) hb
  have HY := Lib.hid hb
  clear hb
  go_wp2_with fail
  refine bodyPost_ret (results_row3 rfl _ _ (w.heap.size + 1) 126 #[.string ⟨#[]⟩, .int .i64 0] (0, 0) _ rfl (by rw [setCellB (setCellB HY.out)]; rfl) Tryz.underlying126 rfl (by kernel_rfl)) rfl ?_
  exact ⟨rfl, ((HX.out.trans y.x).setCell (p := ⟨w.heap.size + 1, 0, none⟩) (Nat.le_succ _) _).setCell (p := ⟨w.heap.size + 1, 1, none⟩) (Nat.le_succ _) _⟩
end Go.Proofs.YtldppmjjgljinaaGreatDoor

namespace Go.Proofs.YtldppmjjgljinaaGreatDoor
open Go.RowKit

theorem wpQuiet_load_row_g {P : Program} {ops : Array Oper} {C : World → Prop} {Q : Act → Prop} {a : Act} {o : Oper} {rest : List Oper} (hw : Region.wanted o (yielded ops a.tmps) = true) (ty : TypeId) (x : Operand) (ho : o.op = .load ty x)
    (g : Nat) (hx : a.eval x = .pointer (some ⟨g, 0, none⟩)) (t : TypeId) (cs : Array Value) (fr : Nat × Nat) (d : TypeDesc) (hg : ∀ w, C w → w.heap[g]? = some (.cells cs t fr))
    (hu : P.underlying ty = some d) (hd : (match d with | .struct _ | .array _ _ => true | _ => false) = true) (hi : (P.info? ty).map (·.size) = some cs.size)
    (h : wpQuiet P ops C Q rest (a.put o.dst (.agg cs))) : wpQuiet P ops C Q (o :: rest) a :=
  wpQuiet_step fun K hK => by
    rw [if_pos hw]
    refine ⟨.agg cs, fun w hw => ?_, hK _ h⟩
    unfold Oper.quietAt execOp
    simp only [ho, hx, Instr.loadAt, Instr.sureAddr, Sem.run_bind, Sem.run_pure, Result.andThen_ok, run_loadVar_row w g t ty cs fr d (hg w hw) hu hd hi]
    exact ⟨rfl, rfl⟩
/-- Are two blocks the same? -/
def sameB (N : Nat) (hs : List (List UInt8)) (k i : Nat) : Bool := decide (hs[k]? = hs[i]?) && decide (lenN N k = lenN N i)
/-- Where a block comes from, if nobody finds any. -/
def stepV (N : Nat) (hs : List (List UInt8)) (t : List UInt8) (i : Nat) : Value :=
  if rightB N hs i (placedL N t i) then .agg #[.int .i64 i, .int .i64 1, .string ⟨#[]⟩, .int .i64 0, .int .i64 0]
  else match (List.range i).find? fun k => sameB N hs k i with
    | some k => .agg #[.int .i64 i, .int .i64 3, .string ⟨#[]⟩, .int .i64 0, .int .i64 k]
    | none => .agg #[.int .i64 i, .int .i64 4, .string ⟨#[]⟩, .int .i64 0, .int .i64 0]

set_option maxRecDepth 100000 in
set_option maxHeartbeats 4000000 in
theorem cstep_any (r : RecS) (C : Array Value) (bl : Value) (N i : Nat) (t : List UInt8) (v : Value) (b : Nat) (w : World) (T : ShaTabs w) (hC : RecC C r bl) (hb : HashesAt w bl r.hs) (G : r.Good N) (hi : i < countN N) (hv : BytesOff b w v t) :
    Calls Tryz.prog 146 #[.agg C, .int .i64 i, .pointer none, v] w fun e w' => e = .returned (stepV N r.hs t i) ∧ Ext w w' := by
  have hsm := G.small
  have hcn := G.count
  have hc32 := count_le hsm
  obtain ⟨ha, hcap, rfl, hb1, hb2, hb3⟩ := hb
  have HRt := fun w' (x : Ext w w') u (h : BytesOff w'.heap.size w' u (placedL N t i)) => Lib.hid (cright_any r C _ N i (placedL N t i) u w' (T.ext x) hC ((show HashesAt w _ r.hs from ⟨_, _, rfl, hb1, hb2, hb3⟩).ext x) G hi h (by unfold placedL; split <;> simp; have := lenN_le N i; omega))
  obtain ⟨u, hpl, hpb⟩ := cplaced_any r C _ N i t v b w hC ⟨_, _, rfl⟩ G hi hv
  have HPl := fun w' (x : Ext w w') => Lib.hid (hpl w' x)
  have HRu := fun w' (x : Ext w w') => HRt w' x u (hpb w' _ x (Nat.le_refl _))
  clear HRt hpl hpb
  have HLen := fun (k : Nat) (hk : k < countN N) w' => Lib.hid (show Calls Tryz.prog 77 #[.agg C, .int .i64 k] w' (fun e w'' => e = .returned (.int .i64 (lenN N k : Nat)) ∧ Ext w' w'') from by
    rw [← G.len hk]
    exact clength_any r C _ k w' hC ⟨_, _, rfl⟩ (by rw [G.size]; omega) (by rw [G.size]; omega))
  have HFd := fun A w' => Lib.hid (bfind_nil A w')
  have HS := Lib.hid (show stepV N r.hs t i = if rightB N r.hs i (placedL N t i) then .agg #[.int .i64 i, .int .i64 1, .string ⟨#[]⟩, .int .i64 0, .int .i64 0] else match (List.range i).find? fun k => sameB N r.hs k i with
    | some k => .agg #[.int .i64 i, .int .i64 3, .string ⟨#[]⟩, .int .i64 0, .int .i64 k]
    | none => .agg #[.int .i64 i, .int .i64 4, .string ⟨#[]⟩, .int .i64 0, .int .i64 0] from rfl)
  have HCz := Lib.hid (show (Tryz.prog.info? 31).map (·.size) = some C.size from by rw [hC.n]; kernel_rfl)
  obtain ⟨W1, hW1⟩ : ∃ W1, W1 = (w.alloc (.cells C 31 (0, 0))).alloc (.cells #[.int .i64 0, .int .i64 0, .string ⟨#[]⟩, .int .i64 0, .int .i64 0] 128 (0, 0)) := ⟨_, rfl⟩
  have HX1 := Lib.hid (show Ext w W1 from hW1 ▸ ((Ext.refl w).alloc _).alloc _)
  have HB4 := Lib.hid (show W1.heap[w.heap.size]? = some (.cells C 31 (0, 0)) from by
    rw [hW1, block_alloc_old (by rw [size_alloc]; omega)]; exact block_alloc_new _ _)
  have HB8 := Lib.hid (show W1.heap[w.heap.size + 1]? = some (.cells #[.int .i64 0, .int .i64 0, .string ⟨#[]⟩, .int .i64 0, .int .i64 0] 128 (0, 0)) from by
    have := block_alloc_new (w.alloc (.cells C 31 (0, 0))) (.cells #[.int .i64 0, .int .i64 0, .string ⟨#[]⟩, .int .i64 0, .int .i64 0] 128 (0, 0))
    rw [size_alloc] at this
    rw [hW1]; exact this)
  have HC23 := Lib.hid hC.c23
  obtain ⟨h, hh⟩ : ∃ h, r.hs[i]? = some h := ⟨_, List.getElem?_eq_getElem (by omega)⟩
  obtain ⟨hh32, g, o, rfl, hgl, hrg⟩ := hb3 i h hh
  have HAi := Lib.hid (hArr_list hh32)
  have HZi := Lib.hid (show (Tryz.prog.info? 45).map (·.size) = some (hArr h 32).size from by rw [hArr_size _ _ hh32 (by omega)]; kernel_rfl)
  have HRi := Lib.hid (show ∀ w', Ext w w' → w'.rangeAt g (o + i * 32) (hArr h 32).toList from fun w' x j y hj => by
    rw [HAi.out] at hj
    exact (x.cell hgl).trans (hrg j y (by simpa using hj)))
  have HB3 := Lib.hid hb3
  have HH := Lib.hid hh
  have HH32 := Lib.hid hh32
  have HBq := Lib.hid (show ∀ w2, Ext W1 w2 → ∀ w', (∃ y : After w2, w' = y.v) → w'.heap[w.heap.size]? = some (.cells C 31 (0, 0)) from by
    rintro w2 x _ ⟨y, rfl⟩
    exact ((x.trans y.x).block (ltB HB4.out)).trans HB4.out)
  have hin : (i : Int) < (r.hs.length : Int) := by omega
  have hin2 : i < r.hs.length := by omega
  have HHi := Lib.hid hi
  have HCN := Lib.hid hcn
  obtain ⟨rb, hrb⟩ : ∃ rb, rb = rightB N r.hs i (placedL N t i) := ⟨_, rfl⟩
  have HBo := Lib.hid hrb
  rw [← hrb] at HRu HS
  generalize stepV N r.hs t i = S at *
  obtain ⟨n, hn⟩ : ∃ n, n = r.hs.length := ⟨_, rfl⟩
  have HN := Lib.hid hn
  rw [← hn] at hin hin2 hb1 hcn HC23
  have hi32 : i ≤ 32 := by omega
  clear hrb hn hb3 hrg hh hh32 hC G T hv HBo hsm hc32 hi
  go_enter Tryz.func146, Tryz.ntmps146
  go_wp2_with fail
  rw [← hW1]
  clear hW1
  refine wp_region_after (by kernel_rfl) (by kernel_rfl) ?_
  repeat (first | (refine wpQuiet_load_row rfl 31 (.tmp 4) rfl w.heap.size rfl 31 C (0, 0) _ (HBq.out _ (Ext.refl _)) Tryz.underlying31 rfl HCz.out ?_; go_frame) | go_big_quiet_step (first | (go_at_call 197; exact After.of (HPl _ (HX1.out.trans (After.x _))).out) | (go_at_call 196; exact After.of (HRu _ (HX1.out.trans (After.x _))).out)))
  refine wpQuiet_nil ?_
  rintro _ ⟨y, rfl⟩
  have HZ := Lib.hid y.x
  obtain ⟨w2, hw2⟩ : ∃ x, x = y.v := ⟨_, rfl⟩
  rw [← hw2] at HZ ⊢
  clear hw2 y HPl HRu
  cases rb with
  | true =>
    have HSR := Lib.hid (HS.out.trans (if_pos rfl))
    have hbr := (HZ.out.block (ltB HB8.out)).trans HB8.out
    have k0 := cellB (k := 0) hbr
    have k1 := cellB (k := 1) hbr
    have k2 := cellB (k := 2) hbr
    have k3 := cellB (k := 3) hbr
    have k4 := cellB (k := 4) hbr
    have f0 := frozenB (k := 0) hbr
    have f1 := frozenB (k := 1) hbr
    have f2 := frozenB (k := 2) hbr
    have f3 := frozenB (k := 3) hbr
    have f4 := frozenB (k := 4) hbr
    have HRR := Lib.hid hbr
    clear hbr
    go_wp2_with fail
    refine bodyPost_ret (results_cell_row rfl _ _ (w.heap.size + 1) 128 #[.int .i64 i, .int .i64 1, .string ⟨#[]⟩, .int .i64 0, .int .i64 0] (0, 0) _ rfl (by rw [setCellB (setCellB (setCellB (setCellB (setCellB HRR.out))))]; rfl) Tryz.underlying128 rfl (by kernel_rfl)) rfl ?_
    exact ⟨by rw [HSR.out], (((((HX1.out.trans HZ.out).setCell (p := ⟨w.heap.size + 1, 0, none⟩) (Nat.le_succ _) _).setCell (p := ⟨w.heap.size + 1, 1, none⟩) (Nat.le_succ _) _).setCell (p := ⟨w.heap.size + 1, 2, none⟩) (Nat.le_succ _) _).setCell (p := ⟨w.heap.size + 1, 3, none⟩) (Nat.le_succ _) _).setCell (p := ⟨w.heap.size + 1, 4, none⟩) (Nat.le_succ _) _⟩
  | false =>
    have HS2 := Lib.hid (HS.out.trans (if_neg (by decide)))
    go_wp2_with fail
    go_loopw [23] (fun kv wr => Hid (∃ k : Nat, k ≤ i ∧ kv = .int .i64 k ∧ Ext W1 wr ∧ ∀ j, j < k → sameB N r.hs j i = false)) (fun kv _ => i - (intOf kv).toNat)
    case atStart => exact ⟨0, Nat.zero_le _, rfl, HZ.out, fun j hj => absurd hj (Nat.not_lt_zero j)⟩
    case round =>
      obtain ⟨k, hk, rfl, hx, hno⟩ := hrel.out
      clear hrel HZ
      have HZ := Lib.hid hx
      have HNo := Lib.hid hno
      clear hx hno
      have k23 : wr.cell? ⟨w.heap.size, 23, none⟩ = some (.slice (some ⟨g, o, none⟩) n hcap) := (cellB (k := 23) ((HZ.out.block (ltB HB4.out)).trans HB4.out)).trans HC23.out
      by_cases hlt : k < i
      · obtain ⟨hk', hhk⟩ : ∃ h', r.hs[k]? = some h' := ⟨_, List.getElem?_eq_getElem (by have := HN.out; omega)⟩
        obtain ⟨hk32, g', o', e', hgl', hrg'⟩ := HB3.out k hk' hhk
        cases e'
        have HAk := Lib.hid (hArr_list hk32)
        have HZk := Lib.hid (show (Tryz.prog.info? 45).map (·.size) = some (hArr hk' 32).size from by rw [hArr_size _ _ hk32 (by omega)]; kernel_rfl)
        have HRk := Lib.hid (show ∀ w', (∃ y : After wr, w' = y.v) → w'.rangeAt g (o + k * 32) (hArr hk' 32).toList from by
          rintro _ ⟨y, rfl⟩ j z hj
          rw [HAk.out] at hj
          exact (((HX1.out.trans HZ.out).trans y.x).cell hgl').trans (hrg' j z (by simpa using hj)))
        have HRi2 := Lib.hid (show ∀ w', (∃ y : After wr, w' = y.v) → w'.rangeAt g (o + i * 32) (hArr h 32).toList from by
          rintro _ ⟨y, rfl⟩
          exact HRi.out _ ((HX1.out.trans HZ.out).trans y.x))
        have heq := eq_hash hk' h hk32 HH32.out
        obtain ⟨q, hq⟩ : ∃ q, q = decide (hk' = h) := ⟨_, rfl⟩
        have HSm := Lib.hid (show sameB N r.hs k i = (q && decide (lenN N k = lenN N i)) from by
          unfold sameB
          rw [hhk, HH.out, hq]
          congr 1
          rw [decide_eq_decide, Option.some.injEq])
        rw [← hq] at heq
        have HLk := HLen k (by have := HHi.out; omega)
        have HLi := HLen i HHi.out
        have q23 := After.cell k23
        have hkn : (k : Int) < (n : Int) := by omega
        generalize hArr hk' 32 = Ak at *
        generalize hArr h 32 = Ai at *
        clear hq hhk hrg' hk32
        cases q with
        | false =>
          have HNo2 := Lib.hid (show ∀ j, j < k + 1 → sameB N r.hs j i = false from fun j hj => by
            rcases Nat.lt_or_eq_of_le (Nat.le_of_lt_succ hj) with h1 | h1
            · exact HNo.out j h1
            · rw [h1, HSm.out]; rfl)
          go_wp2_with fail
          refine wp_region_after (by kernel_rfl) (by kernel_rfl) ?_
          iterate 4 go_big_quiet_step (fail)
          refine wpQuiet_load_at rfl 45 (.tmp 29) rfl g (o + k * 32) rfl Ak _ HRk.out Tryz.underlying45 rfl HZk.out ?_
          go_frame
          iterate 4 go_big_quiet_step (fail)
          refine wpQuiet_load_at rfl 45 (.tmp 34) rfl g (o + i * 32) rfl Ai _ HRi2.out Tryz.underlying45 rfl HZi.out ?_
          go_frame
          repeat (go_big_quiet_step (fail))
          refine wpQuiet_nil ?_
          rintro _ ⟨y, rfl⟩
          have HZy := Lib.hid (HZ.out.trans y.x)
          clear q23 k23 heq
          go_wp2_with fail
          go_roundw
          case rel => exact ⟨k + 1, by omega, by go_num, HZy.out, HNo2.out⟩
          case measure => simp [intOf] <;> omega
        | true =>
          have HLE := Lib.hid (show sameB N r.hs k i = decide (lenN N k = lenN N i) from by rw [HSm.out, Bool.true_and])
          generalize lenN N k = lk at *
          generalize lenN N i = li at *
          have HBqr := Lib.hid (HBq.out wr HZ.out)
          by_cases hll : lk = li
          · have e5 : ((lk : Int) == (li : Int)) = true := by rw [beq_iff_eq]; omega
            have e6 : (lk == li) = true := by rw [beq_iff_eq]; exact hll
            have HSR := Lib.hid (show S = .agg #[.int .i64 i, .int .i64 3, .string ⟨#[]⟩, .int .i64 0, .int .i64 k] from by
              rw [HS2.out]
              have hf : (List.range i).find? (fun k => sameB N r.hs k i) = some k := by
                rw [List.find?_eq_some_iff_append]
                refine ⟨by rw [HLE.out]; exact decide_eq_true hll, List.range k, (List.range' (k + 1) (i - k - 1)), ?_, fun j hj => ?_⟩
                · have hik : i = k + (1 + (i - k - 1)) := by omega
                  rw [hik, List.range_eq_range', List.range_eq_range', ← List.range'_append_1, ← List.range'_append_1]
                  simp
                · have := HNo.out j (List.mem_range.1 hj)
                  rw [this]; rfl
              rw [hf])
            clear hll HSm HLE
            go_wp2_with fail
            refine wp_region_after (by kernel_rfl) (by kernel_rfl) ?_
            iterate 4 go_big_quiet_step (fail)
            refine wpQuiet_load_at rfl 45 (.tmp 29) rfl g (o + k * 32) rfl Ak _ HRk.out Tryz.underlying45 rfl HZk.out ?_
            go_frame
            iterate 4 go_big_quiet_step (fail)
            refine wpQuiet_load_at rfl 45 (.tmp 34) rfl g (o + i * 32) rfl Ai _ HRi2.out Tryz.underlying45 rfl HZi.out ?_
            go_frame
            iterate 2 go_big_quiet_step (fail)
            refine wpQuiet_load_row_g ?_ 31 (.tmp 4) rfl w.heap.size rfl 31 C (0, 0) _ HBqr.out Tryz.underlying31 rfl HCz.out ?_
            · simp [Region.wanted, yielded]
            go_frame
            go_big_quiet_step (fail)
            go_big_quiet_step (exact After.of (HLk _).out)
            refine wpQuiet_load_row_g ?_ 31 (.tmp 4) rfl w.heap.size rfl 31 C (0, 0) _ HBqr.out Tryz.underlying31 rfl HCz.out ?_
            · simp [Region.wanted, yielded]
            go_frame
            go_big_quiet_step (fail)
            go_big_quiet_step (exact After.of (HLi _).out)
            repeat (go_big_quiet_step (fail))
            refine wpQuiet_nil ?_
            rintro _ ⟨y, rfl⟩
            have HZ := Lib.hid (HZ.out.trans y.x)
            clear q23 k23 heq
            have hbr := (HZ.out.block (ltB HB8.out)).trans HB8.out
            have k0 := cellB (k := 0) hbr
            have k1 := cellB (k := 1) hbr
            have k2 := cellB (k := 2) hbr
            have k3 := cellB (k := 3) hbr
            have k4 := cellB (k := 4) hbr
            have f0 := frozenB (k := 0) hbr
            have f1 := frozenB (k := 1) hbr
            have f2 := frozenB (k := 2) hbr
            have f3 := frozenB (k := 3) hbr
            have f4 := frozenB (k := 4) hbr
            have HRR := Lib.hid hbr
            clear hbr
            go_wp2_with fail
            refine bodyPost_ret (results_cell_row rfl _ _ (w.heap.size + 1) 128 #[.int .i64 i, .int .i64 3, .string ⟨#[]⟩, .int .i64 0, .int .i64 k] (0, 0) _ rfl (by rw [setCellB (setCellB (setCellB (setCellB (setCellB HRR.out))))]; rfl) Tryz.underlying128 rfl (by kernel_rfl)) rfl ?_
            exact ⟨by rw [HSR.out], (((((HX1.out.trans HZ.out).setCell (p := ⟨w.heap.size + 1, 0, none⟩) (Nat.le_succ _) _).setCell (p := ⟨w.heap.size + 1, 1, none⟩) (Nat.le_succ _) _).setCell (p := ⟨w.heap.size + 1, 2, none⟩) (Nat.le_succ _) _).setCell (p := ⟨w.heap.size + 1, 3, none⟩) (Nat.le_succ _) _).setCell (p := ⟨w.heap.size + 1, 4, none⟩) (Nat.le_succ _) _⟩
          · have e5 : ((lk : Int) == (li : Int)) = false := by rw [beq_eq_false_iff_ne]; omega
            have e6 : (lk == li) = false := by rw [beq_eq_false_iff_ne]; exact hll
            have HNo2 := Lib.hid (show ∀ j, j < k + 1 → sameB N r.hs j i = false from fun j hj => by
              rcases Nat.lt_or_eq_of_le (Nat.le_of_lt_succ hj) with h1 | h1
              · exact HNo.out j h1
              · rw [h1, HLE.out]; exact decide_eq_false hll)
            clear hll HSm HLE
            go_wp2_with fail
            refine wp_region_after (by kernel_rfl) (by kernel_rfl) ?_
            iterate 4 go_big_quiet_step (fail)
            refine wpQuiet_load_at rfl 45 (.tmp 29) rfl g (o + k * 32) rfl Ak _ HRk.out Tryz.underlying45 rfl HZk.out ?_
            go_frame
            iterate 4 go_big_quiet_step (fail)
            refine wpQuiet_load_at rfl 45 (.tmp 34) rfl g (o + i * 32) rfl Ai _ HRi2.out Tryz.underlying45 rfl HZi.out ?_
            go_frame
            iterate 2 go_big_quiet_step (fail)
            refine wpQuiet_load_row_g ?_ 31 (.tmp 4) rfl w.heap.size rfl 31 C (0, 0) _ HBqr.out Tryz.underlying31 rfl HCz.out ?_
            · simp [Region.wanted, yielded]
            go_frame
            go_big_quiet_step (fail)
            go_big_quiet_step (exact After.of (HLk _).out)
            refine wpQuiet_load_row_g ?_ 31 (.tmp 4) rfl w.heap.size rfl 31 C (0, 0) _ HBqr.out Tryz.underlying31 rfl HCz.out ?_
            · simp [Region.wanted, yielded]
            go_frame
            go_big_quiet_step (fail)
            go_big_quiet_step (exact After.of (HLi _).out)
            repeat (go_big_quiet_step (fail))
            refine wpQuiet_nil ?_
            rintro _ ⟨y, rfl⟩
            have HZy := Lib.hid (HZ.out.trans y.x)
            clear q23 k23 heq
            go_wp2_with fail
            go_roundw
            case rel => exact ⟨k + 1, by omega, by go_num, HZy.out, HNo2.out⟩
            case measure => simp [intOf] <;> omega
      · obtain rfl : k = i := by omega
        have nlt : decide ((k : Int) < (k : Int)) = false := by simp
        have HSR := Lib.hid (show S = .agg #[.int .i64 k, .int .i64 4, .string ⟨#[]⟩, .int .i64 0, .int .i64 0] from by
          rw [HS2.out]
          have hf : (List.range k).find? (fun j => sameB N r.hs j k) = none := by
            rw [List.find?_eq_none]
            intro j hj
            rw [HNo.out j (List.mem_range.1 hj)]; decide
          rw [hf])
        have HRi2 := Lib.hid (HRi.out wr (HX1.out.trans HZ.out))
        generalize hArr h 32 = Ai at *
        have HF1 := HFd Ai wr
        clear HS2 HNo
        go_wp2_with (refine wpList_load_at rfl 45 (.tmp 55) rfl g (o + k * 32) rfl Ai _ HRi2.out Tryz.underlying45 rfl HZi.out ?_; go_frame)
        refine HF1.out.mono ?_
        rintro e w5 ⟨rfl, x5⟩
        have HZ := Lib.hid ((HZ.out.trans x5).alloc (.cells #[.string ⟨#[]⟩, .int .i64 0] 126))
        clear x5 HF1 k23
        have hbr := (HZ.out.block (ltB HB8.out)).trans HB8.out
        have k0 := cellB (k := 0) hbr
        have k1 := cellB (k := 1) hbr
        have k2 := cellB (k := 2) hbr
        have k3 := cellB (k := 3) hbr
        have k4 := cellB (k := 4) hbr
        have f0 := frozenB (k := 0) hbr
        have f1 := frozenB (k := 1) hbr
        have f2 := frozenB (k := 2) hbr
        have f3 := frozenB (k := 3) hbr
        have f4 := frozenB (k := 4) hbr
        have HRR := Lib.hid hbr
        clear hbr
        go_wp2_with fail
        refine bodyPost_ret (results_cell_row rfl _ _ (w.heap.size + 1) 128 #[.int .i64 k, .int .i64 4, .string ⟨#[]⟩, .int .i64 0, .int .i64 0] (0, 0) _ rfl (by rw [setCellB (setCellB (setCellB (setCellB (setCellB HRR.out))))]; rfl) Tryz.underlying128 rfl (by kernel_rfl)) rfl ?_
        exact ⟨by rw [HSR.out], (((((HX1.out.trans HZ.out).setCell (p := ⟨w.heap.size + 1, 0, none⟩) (Nat.le_succ _) _).setCell (p := ⟨w.heap.size + 1, 1, none⟩) (Nat.le_succ _) _).setCell (p := ⟨w.heap.size + 1, 2, none⟩) (Nat.le_succ _) _).setCell (p := ⟨w.heap.size + 1, 3, none⟩) (Nat.le_succ _) _).setCell (p := ⟨w.heap.size + 1, 4, none⟩) (Nat.le_succ _) _⟩
end Go.Proofs.YtldppmjjgljinaaGreatDoor

namespace Go.Proofs.YtldppmjjgljinaaGreatDoor
open Go.RowKit

/-- Where a block comes from, and of which block. -/
def stepP (N : Nat) (hs : List (List UInt8)) (t : List UInt8) (i : Nat) : Int × Int :=
  if rightB N hs i (placedL N t i) then (1, 0)
  else match (List.range i).find? fun k => sameB N hs k i with
    | some k => (3, k)
    | none => (4, 0)
def stepL (N : Nat) (hs : List (List UInt8)) (t : List UInt8) (i : Nat) : List Value := [.int .i64 i, .int .i64 (stepP N hs t i).1, .string ⟨#[]⟩, .int .i64 0, .int .i64 (stepP N hs t i).2]
theorem stepV_eq (N : Nat) (hs : List (List UInt8)) (t : List UInt8) (i : Nat) : stepV N hs t i = .agg #[.int .i64 i, .int .i64 (stepP N hs t i).1, .string ⟨#[]⟩, .int .i64 0, .int .i64 (stepP N hs t i).2] := by
  unfold stepV stepP
  split
  · rfl
  · split <;> simp [*]
def stepsL (N : Nat) (hs : List (List UInt8)) (t : List UInt8) (n : Nat) : List Value := (List.range n).flatMap fun i => stepL N hs t i
theorem elStep : ElemK Tryz.prog 121 128 (.agg #[.int .i64 0, .int .i64 0, .string ⟨#[]⟩, .int .i64 0, .int .i64 0]) 5 48 := ⟨by kernel_rfl, by kernel_rfl, rfl, by decide, by decide⟩
theorem owns_low {w : World} {b b' k : Nat} {e : TypeId} {v : Value} {n : Nat} {xs : List Value} (h : w.ownsRow b e k v n xs) (hb : b' ≤ b) : w.ownsRow b' e k v n xs := by
  refine ⟨h.1, ?_⟩
  rcases h.2 with h1 | ⟨g, cap, cur, hv, hg, hr⟩
  · exact .inl h1
  · exact .inr ⟨g, cap, cur, hv, Nat.le_trans hb hg, hr⟩
def PlAt (w0 : World) (N : Nat) (hs : List (List UInt8)) (t : List UInt8) (k : Nat) (v : Value) (wr : World) : Prop :=
  wr.ownsRow (w0.heap.size + 1) 128 5 v k (stepsL N hs t k) ∧ Ext w0 wr

set_option maxRecDepth 100000 in
set_option maxHeartbeats 2000000 in
theorem cplan_ok (r : RecS) (C : Array Value) (bl : Value) (N : Nat) (t : List UInt8) (v : Value) (w : World) (T : ShaTabs w) (hC : RecC C r bl) (hb : HashesAt w bl r.hs) (G : r.Good N) (hv : BytesOff w.heap.size w v t) :
    Calls Tryz.prog 74 #[.agg C, .pointer none, v] w fun e w' => ∃ u, e = .returned (.tuple #[u, .int .i64 0]) ∧ Hid (w'.ownsRow w.heap.size 128 5 u (countN N) (stepsL N r.hs t (countN N)) ∧ Ext w w') := by
  have HW := fun w' => Lib.hid (show Calls Tryz.prog 145 #[.agg C] w' (fun e w'' => e = .returned (.int .i64 0) ∧ Ext w' w'') from by
    obtain ⟨a, cap, h, _⟩ := hb
    rw [← G.wanted]
    exact cwanted_any r C bl w' hC ⟨a, cap, h⟩ (by rw [G.size]; omega) (by rw [G.size]; have := G.small; omega))
  have HSt := fun wr (x : Ext w wr) (i : Nat) (hi : i < countN N) => Lib.hid (cstep_any r C bl N i t v w.heap.size wr (T.ext x) hC (hb.ext x) G hi (bytesOff_any hv x (Nat.le_refl _)))
  have hcn := G.count
  have hc32 := count_le G.small
  obtain ⟨a, cap, rfl, hb1, hb2, _⟩ := hb
  have HB := Lib.hid (block_alloc_new w (.cells C 31 (0, 0)))
  have HX := Lib.hid ((Ext.refl w).alloc (.cells C 31))
  have HCz := Lib.hid (show (Tryz.prog.info? 31).map (·.size) = some C.size from by rw [hC.n]; kernel_rfl)
  have HC := Lib.hid hC
  rw [hcn] at hb1
  have HC23 := Lib.hid (show C[23]? = some (.slice a (countN N) cap) from by rw [← hcn]; exact hC.c23)
  have HSS := Lib.hid (show ∀ n, stepsL N r.hs t (n + 1) = stepsL N r.hs t n ++ stepL N r.hs t n from fun n => by simp [stepsL, List.range_succ])
  generalize countN N = c at *
  clear T hC hv G hcn
  go_enter Tryz.func74, Tryz.ntmps74
  go_wp2_with (refine wpList_load_row rfl 31 (.tmp 3) rfl w.heap.size rfl 31 C (0, 0) _ HB.out Tryz.underlying31 rfl HCz.out ?_; go_frame)
  refine (HW _).out.mono ?_
  rintro e w1 ⟨rfl, x1⟩
  have HX1 := Lib.hid (HX.out.trans x1)
  have HB1 := Lib.hid ((x1.block (ltB HB.out)).trans HB.out)
  have k23 : w1.cell? ⟨w.heap.size, 23, none⟩ = some (.slice a c cap) := (cellB (k := 23) HB1.out).trans HC23.out
  clear x1 HW
  go_wp2_with fail
  go_loopw [6, 18] (fun lv iv wr => Hid (∃ k : Nat, k ≤ c ∧ iv = .int .i64 k ∧ PlAt w N r.hs t k lv wr ∧ wr.heap[w.heap.size]? = some (.cells C 31 (0, 0)))) (fun _ iv _ => c - (intOf iv).toNat)
  case atStart => exact ⟨0, Nat.zero_le _, rfl, ⟨World.ownsRow_nil _ _ _ _, HX1.out⟩, HB1.out⟩
  case round =>
    obtain ⟨k, hk, rfl, ⟨ho, hx⟩, hB⟩ := hrel.out
    clear hrel k23 HX1 HB1
    have HX := Lib.hid hx
    have HO := Lib.hid ho
    have HBr := Lib.hid hB
    obtain ⟨oa, ocap, rfl⟩ := rowk_shape ho
    by_cases hlt : k < c
    · have HS := HSt wr hx k hlt
      have HR := Lib.hid (show stepsL N r.hs t (k + 1) = stepsL N r.hs t k ++ [.int .i64 k, .int .i64 (stepP N r.hs t k).1, .string ⟨#[]⟩, .int .i64 0, .int .i64 (stepP N r.hs t k).2] from HSS.out k)
      rw [stepV_eq] at HS
      generalize (stepP N r.hs t k).1 = p1 at *
      generalize (stepP N r.hs t k).2 = p2 at *
      clear ho hx hB HSt
      go_wp2_with (refine wpList_load_row rfl 31 (.tmp 3) rfl w.heap.size rfl 31 C (0, 0) _ HBr.out Tryz.underlying31 rfl HCz.out ?_; go_frame)
      refine HS.out.mono ?_
      rintro e w3 ⟨rfl, x3⟩
      have HX3 := Lib.hid (HX.out.trans x3)
      have HO3 := Lib.hid (owns_ext HO.out x3)
      have HB3 := Lib.hid ((x3.block (ltB HBr.out)).trans HBr.out)
      have hsz := HX3.out.size
      have hlb := ltB HB3.out
      clear x3 HS HO HX
      go_wp2_with (at_builtin; refine append_k elStep (w.heap.size + 1) _ _ _ (HO3.out.alloc _) w3.heap.size [.int .i64 k, .int .i64 p1, .string ⟨#[]⟩, .int .i64 0, .int .i64 p2] rfl (.tmp 21) (.tmp 27) rfl rfl rfl rfl ?c1 ?c2 (by omega) (by simp; omega) ?_)
      case c1 =>
        intro j y hj
        rw [cell_alloc_new rfl, ← hj]
        simp
      case c2 =>
        intro y hy
        simp only [List.mem_cons, List.not_mem_nil, or_false] at hy
        rcases hy with rfl | rfl | rfl | rfl | rfl <;> rfl
      intro v' w4 hown4 hg4 hrow4
      have HF := Lib.hid (show PlAt w N r.hs t (k + 1) v' w4 from ⟨by rw [HR.out]; exact hown4, grown_extB (HX3.out.alloc _) (Nat.le_succ _) (HO3.out.alloc _) hg4⟩)
      have HB4 := Lib.hid (show w4.heap[w.heap.size]? = some (.cells C 31 (0, 0)) from (hg4.block w.heap.size (by simp; omega) (fun e => by have := (HO3.out.lt _ e.symm).1; omega)).trans ((block_alloc_old hlb).trans HB3.out))
      clear hown4 hg4 hrow4
      go_wp2_with fail
      go_roundw
      case rel => exact ⟨k + 1, by omega, by go_num, HF.out, HB4.out⟩
      case measure => simp [intOf] <;> omega
    · obtain rfl : k = c := by omega
      have nlt : decide ((k : Int) < (k : Int)) = false := by simp
      clear ho hx hB HSt
      go_wp2_with fail
      go_ret2
      exact ⟨_, rfl, owns_low HO.out (Nat.le_succ _), HX.out⟩

set_option maxRecDepth 100000 in
set_option maxHeartbeats 2000000 in
theorem cplan_err (r : RecS) (C : Array Value) (bl : Value) (f v : Value) (w : World) (hC : RecC C r bl) (hb : ∃ a cap, bl = .slice a r.hs.length cap) (hlo : -9223372036854775808 ≤ r.size) (hhi : r.size ≤ 9223372036854775807) (h0 : r.wanted ≠ 0) :
    Calls Tryz.prog 74 #[.agg C, f, v] w fun e w' => e = .returned (.tuple #[.slice none 0 0, .int .i64 r.wanted]) ∧ Ext w w' := by
  have HW := fun w' => Lib.hid (cwanted_any r C bl w' hC hb hlo hhi)
  have HB := Lib.hid (block_alloc_new w (.cells C 31 (0, 0)))
  have HX := Lib.hid ((Ext.refl w).alloc (.cells C 31))
  have HCz := Lib.hid (show (Tryz.prog.info? 31).map (·.size) = some C.size from by rw [hC.n]; kernel_rfl)
  have d0 : (r.wanted != 0) = true := by rw [bne_iff_ne]; exact h0
  have d1 : (r.wanted == 0) = false := by rw [beq_eq_false_iff_ne]; exact h0
  generalize r.wanted = W at *
  clear hb hC h0
  go_enter Tryz.func74, Tryz.ntmps74
  go_wp2_with (refine wpList_load_row rfl 31 (.tmp 3) rfl w.heap.size rfl 31 C (0, 0) _ HB.out Tryz.underlying31 rfl HCz.out ?_; go_frame)
  refine (HW _).out.mono ?_
  rintro e w1 ⟨rfl, x1⟩
  have HX1 := Lib.hid (HX.out.trans x1)
  clear x1 HW
  go_wp2_with fail
  go_ret2
  exact ⟨rfl, HX1.out⟩
end Go.Proofs.YtldppmjjgljinaaGreatDoor

namespace Go.Proofs.YtldppmjjgljinaaGreatDoor
open Go.RowKit

/-- A copy of bytes that are some. -/
theorem cloneBytes_any (l : List UInt8) (b : Nat) (v : Value) (w : World) (hv : BytesOff b w v l) (h0 : 0 < l.length) (hl : l.length ≤ 1073741824) :
    Calls Tryz.prog 80 #[v] w fun e w' => ∃ u, e = .returned u ∧ Hid (w'.ownsRow w.heap.size 5 1 u l.length (l.map bv) ∧ Ext w w') := by
  obtain ⟨a, cap, rfl, h1, h2, h3⟩ := hv
  obtain ⟨g, o, rfl, _, _, hc⟩ := h3 h0
  obtain ⟨i0, hi, hz0, hz1, hz2⟩ := info_parts elU8.info
  refine (AnyE.slices_Clone Tryz.cloneBytes i0 (.int .u8 0) 1 1 hi hz0 hz1 hz2 rfl (by decide) (fun w => by kernel_rfl) g o l.length cap (l.map bv) w (by simp) (by unfold maxLen; omega) (by omega) (fun j u hj => ?_) (fun u hu => ?_)).mono ?_
  · rw [List.getElem?_map] at hj
    obtain ⟨x, hx, rfl⟩ := Option.map_eq_some_iff.1 hj
    exact hc j x hx
  · obtain ⟨x, _, rfl⟩ := List.mem_map.1 hu
    rfl
  · rintro e w' ⟨v', he, ho, _, hx⟩
    exact ⟨v', he, ho, hx⟩
theorem hrow_len {hs : List (List UInt8)} (hf : ∀ h ∈ hs, h.length = 32) : (hrow hs).length = hs.length * 32 := by
  unfold hrow
  induction hs with
  | nil => rfl
  | cons h r ih =>
    rw [List.flatMap_cons, List.length_append, ih fun x hx => hf x (List.mem_cons_of_mem _ hx), List.length_map, hf h List.mem_cons_self, List.length_cons, Nat.succ_mul]; omega
theorem hrow_get : ∀ (hs : List (List UInt8)), (∀ h ∈ hs, h.length = 32) → ∀ (k j : Nat) h, hs[k]? = some h → j < 32 → (hrow hs)[k * 32 + j]? = (h.map bv)[j]?
  | [], _, k, j, x, h, _ => by simp at h
  | y :: r, hf, 0, j, x, h, hj => by
    have hy := hf y List.mem_cons_self
    simp at h; subst h
    unfold hrow
    rw [List.flatMap_cons, List.getElem?_append_left (by rw [List.length_map, hy]; omega)]
    congr 1; omega
  | y :: r, hf, k + 1, j, x, h, hj => by
    have hy := hf y List.mem_cons_self
    have ih := hrow_get r (fun x hx => hf x (List.mem_cons_of_mem _ hx)) k j x (by simpa using h) hj
    unfold hrow at ih ⊢
    rw [List.flatMap_cons, List.getElem?_append_right (by rw [List.length_map, hy, Nat.succ_mul]; omega), List.length_map, hy, show (k + 1) * 32 + j - 32 = k * 32 + j from by rw [Nat.succ_mul]; omega]
    exact ih
theorem hrow_inv {hs : List (List UInt8)} (hf : ∀ h ∈ hs, h.length = 32) {j : Nat} {u : Value} (hj : (hrow hs)[j]? = some u) : ∃ h, hs[j / 32]? = some h ∧ (h.map bv)[j % 32]? = some u := by
  have hl := (List.getElem?_eq_some_iff.1 hj).1
  rw [hrow_len hf] at hl
  obtain ⟨h, hh⟩ : ∃ h, hs[j / 32]? = some h := ⟨_, List.getElem?_eq_getElem (by omega)⟩
  refine ⟨h, hh, ?_⟩
  rw [← hrow_get hs hf (j / 32) (j % 32) h hh (Nat.mod_lt _ (by decide)), show j / 32 * 32 + j % 32 = j from by omega]
  exact hj
/-- A row of digests of one's own. -/
theorem hashes_of_own {w : World} {base : Nat} {u : Value} {hs : List (List UInt8)} (h : w.ownsRow base 45 32 u hs.length (hrow hs)) (hf : ∀ h ∈ hs, h.length = 32) :
    HashesAt w u hs ∧ (∀ b o n c, u = .slice (some ⟨b, o, none⟩) n c → base ≤ b ∧ b < w.heap.size) ∧ (u = .slice none 0 0 ∨ ∃ g c, u = .slice (some ⟨g, 0, none⟩) hs.length c) := by
  rcases h.2 with ⟨rfl, h0⟩ | ⟨g, cap, cur, rfl, hg, hh, hc, hm, _⟩
  · have : hs = [] := List.length_eq_zero_iff.1 h0
    subst this
    exact ⟨⟨none, 0, rfl, Nat.le_refl _, by omega, fun i h hi => by simp at hi⟩, fun b o n c he => (by cases he), .inl rfl⟩
  · refine ⟨⟨_, cap, rfl, hc, by unfold maxLen at hm; omega, fun i y hy => ⟨hf y (List.mem_of_getElem? hy), g, 0, rfl, ltB hh, fun j v hj => ?_⟩⟩, fun b o n c he => ?_, .inr ⟨g, cap, rfl⟩⟩
    · have hj32 : j < 32 := by have := (List.getElem?_eq_some_iff.1 hj).1; rw [List.length_map, hf y (List.mem_of_getElem? hy)] at this; exact this
      have := h.cells (g := g) rfl (i * 32 + j) v (by rw [hrow_get hs hf i j y hy hj32]; exact hj)
      rw [append_kw.add_off] at this
      rw [Nat.add_assoc]; exact this
    · cases he; exact ⟨hg, ltB hh⟩
/-- A copy of digests. -/
theorem cloneHashes_any (hs : List (List UInt8)) (bl : Value) (w : World) (hb : HashesAt w bl hs) (hl : hs.length ≤ 1048576) (hsh : ∃ a n c, bl = .slice a n c ∧ (a = none ∨ ∃ g o, a = some ⟨g, o, none⟩)) :
    Calls Tryz.prog 75 #[bl] w fun e w' => ∃ u, e = .returned u ∧ Hid (Ext w w' ∧ HashesAt w' u hs ∧ (∀ b o n c, u = .slice (some ⟨b, o, none⟩) n c → w.heap.size ≤ b ∧ b < w'.heap.size) ∧ (u = .slice none 0 0 ∨ ∃ g c, u = .slice (some ⟨g, 0, none⟩) hs.length c)) := by
  obtain ⟨a, cap, rfl, h1, h2, h3⟩ := hb
  obtain ⟨a', n', c', he, hsh⟩ := hsh
  cases he
  have hf : ∀ h ∈ hs, h.length = 32 := fun h hm => by
    obtain ⟨i, hi⟩ := List.getElem?_of_mem hm
    exact (h3 i h hi).1
  rcases hsh with rfl | ⟨g, o, rfl⟩
  · have h0 : hs = [] := by
      rcases hs with _ | ⟨y, r⟩
      · rfl
      · obtain ⟨_, g, o, he, _⟩ := h3 0 y rfl; cases he
    subst h0
    refine (AnyE.slices_Clone_nil Tryz.cloneHashes _ _ w).mono ?_
    rintro e w' ⟨rfl, hw⟩
    obtain rfl := hw.symm
    exact ⟨_, rfl, Ext.refl _, ⟨none, 0, rfl, Nat.le_refl _, by omega, fun i h hi => by simp at hi⟩, fun b o n c he => (by cases he), .inl rfl⟩
  · obtain ⟨i0, hi, hz0, hz1, hz2⟩ := info_parts elHash.info
    refine (AnyE.slices_Clone Tryz.cloneHashes i0 _ 32 32 hi hz0 hz1 hz2 elHash.cells (by decide) (fun w => by kernel_rfl) g o hs.length cap (hrow hs) w (hrow_len hf) (by unfold maxLen; omega) (by omega) (fun j u hj => ?_) (fun u hu => ?_)).mono ?_
    · obtain ⟨h, hh, hu⟩ := hrow_inv hf hj
      obtain ⟨_, g', o', he, _, hr⟩ := h3 _ h hh
      cases he
      have := hr _ u hu
      rwa [show o + j / 32 * 32 + j % 32 = o + j from by omega] at this
    · unfold hrow at hu
      obtain ⟨h, _, hm⟩ := List.mem_flatMap.1 hu
      obtain ⟨x, _, rfl⟩ := List.mem_map.1 hm
      rfl
    · rintro e w' ⟨v', he, ho, _, hx⟩
      exact ⟨v', he, hx, hashes_of_own ho hf⟩
theorem ownB_off {w : World} {base b : Nat} {v : Value} {l : List UInt8} (h : w.ownsRow base 5 1 v l.length (l.map bv)) (hb : w.heap.size ≤ b) : BytesOff b w v l := by
  rcases h.2 with ⟨rfl, h0⟩ | ⟨g, cap, cur, rfl, hg, hh, hc, hm, _⟩
  · have : l = [] := List.length_eq_zero_iff.1 h0
    subst this
    exact ⟨none, 0, rfl, Nat.le_refl _, by unfold maxLen; omega, fun h => by simp at h⟩
  · have hlt := ltB hh
    refine ⟨_, cap, rfl, hc, hm, fun _ => ⟨g, 0, rfl, by omega, hlt, fun j x hj => ?_⟩⟩
    have := h.cells (g := g) rfl j (bv x) (by rw [List.getElem?_map, hj]; rfl)
    rw [append_kw.add_off] at this
    exact this

set_option maxRecDepth 100000 in
set_option maxHeartbeats 1000000 in
theorem bPart_any (b : Nat) (l : List UInt8) (v : Value) (i : Nat) (w : World) (hv : BytesOff b w v l) (hl : l.length ≤ 4096) (hi : i < countN l.length) :
    Calls Tryz.prog 17 #[v, .int .i64 i] w fun e w' => ∃ u, e = .returned u ∧ Hid (w'.ownsRow w.heap.size 5 1 u (partL l i).length ((partL l i).map bv) ∧ Ext w w') := by
  have HC := Lib.hid (bcount_any (l.length : Int) w (by omega) (by omega))
  rw [show countZ (l.length : Int) = (countN l.length : Nat) from by unfold countZ; rw [if_neg (by omega)]; simp] at HC
  have HP := Lib.hid (bpart_any b l v i w hv hl hi)
  have hlt := (count_spec l.length i).1 hi
  have hsp := sizeN_spec l.length
  have hpl := part_len l i
  have HCl := fun u (h : BytesOff b w u (partL l i)) => Lib.hid (cloneBytes_any (partL l i) b u w h (by omega) (by omega))
  obtain ⟨a, cap, rfl, h1, h2, _⟩ := hv
  unfold maxLen at h2
  generalize partL l i = p at *
  generalize countN l.length = c at *
  generalize l.length = n at *
  have d1 : decide ((i : Int) < 0) = false := decide_eq_false (by omega)
  have d2 : decide ((c : Int) ≤ (i : Int)) = false := decide_eq_false (by omega)
  have d3 : decide (c ≤ i) = false := decide_eq_false (by omega)
  clear hlt hsp hpl hl
  go_enter Tryz.func17, Tryz.ntmps17
  go_wp2_with fail
  refine HC.out.mono ?_
  rintro e w1 ⟨rfl, hw⟩
  obtain rfl := hw.symm
  clear hw
  go_wp2_with fail
  refine HP.out.mono ?_
  rintro e w2 ⟨hw, u, rfl, hu⟩
  obtain rfl := hw.symm
  have HC2 := HCl u hu.out
  clear hw hu HCl
  go_wp2_with fail
  refine HC2.out.mono ?_
  rintro e w3 ⟨u3, rfl, h3⟩
  have H3 := h3
  clear h3
  go_wp2_with fail
  go_ret
  exact ⟨_, rfl, H3.out⟩
end Go.Proofs.YtldppmjjgljinaaGreatDoor
