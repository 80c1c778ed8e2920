/- Function values that hold of a byte: contracts of the closures of caravan/glob, and of what caravanref07 says in their place. -/
import Derived.Test.YtlabhbeacogfbaaDoorGlobA
import Derived.Test.YtlabhbeacogfbaaDoorAfter
import Derived.Deep.RegionWith
namespace Go.Proofs.YtlabhbeacogfbaaDoor
open Go.RowKit

/-- A slice of ranges in memory (two cells each). -/
def RangesAt (w : World) (v : Value) (rs : List (UInt8 × UInt8)) : Prop :=
  ∃ (a : Option Addr) (cap : Nat), v = .slice a rs.length cap ∧ rs.length ≤ cap ∧ cap ≤ maxLen ∧ ∀ (j : Nat) r, rs[j]? = some r → ∃ g, a = some ⟨g, 0, none⟩ ∧
    w.cell? ⟨g, 2 * j, none⟩ = some (.int .u8 r.1.toNat) ∧ w.cell? ⟨g, 2 * j + 1, none⟩ = some (.int .u8 r.2.toNat)

theorem part_any (c : UInt8) (w : World) : Calls Tryd.prog 69 #[.int .u8 c.toNat] w fun e w' => e = .returned (.bool (c != 47)) ∧ w' = w := by
  by_cases h : c = 47
  · subst h
    go_enter Tryd.func69, Tryd.ntmps69
    go_wp2
    go_ret
    exact ⟨rfl, rfl⟩
  · have e1 : (c != 47) = true := by simpa using h
    have e2 : ((c.toNat : Int) != 47) = true := by rw [bne, toNat_ne47 h]; rfl
    rw [e1]
    go_enter Tryd.func69, Tryd.ntmps69
    go_wp2
    go_ret
    exact ⟨rfl, rfl⟩
theorem every_any (c : UInt8) (w : World) : Calls Tryd.prog 70 #[.int .u8 c.toNat] w fun e w' => e = .returned (.bool true) ∧ w' = w := by
  go_enter Tryd.func70, Tryd.ntmps70
  go_wp2
  go_ret
  exact ⟨rfl, rfl⟩

theorem u8_beq (a b : UInt8) : ((a.toNat : Int) == b.toNat) = (a == b) := by
  rw [Bool.eq_iff_iff, beq_iff_eq, beq_iff_eq, ← UInt8.toNat_inj]; omega

theorem is1_any (c b : UInt8) (bw bq bp : Nat) (f : Bool) (w : World) (h1 : w.cell? ⟨bw, 0, none⟩ = some (.int .u8 b.toNat)) (h2 : w.cell? ⟨bq, 0, none⟩ = some (.pointer (some ⟨bp, 0, none⟩))) (h3 : w.cell? ⟨bp, 3, none⟩ = some (.bool f)) :
    Calls Tryd.prog 90 #[.int .u8 c.toNat, .pointer (some ⟨bw, 0, none⟩), .pointer (some ⟨bq, 0, none⟩)] w fun e w' => e = .returned (.bool ((GE.byt b).holds f c)) ∧ ∃ n, w' = w.drewN n := by
  have HC := fun w => Lib.hid (lower_any c w)
  have HB := fun w => Lib.hid (lower_any b w)
  cases q : (c.toNat : Int) == b.toNat
  · cases f
    · have HF := Lib.hid (show (GE.byt b).holds false c = false from by rw [u8_beq] at q; simp [GE.holds, q])
      go_enter Tryd.func90, Tryd.ntmps90
      go_wp2_with fail
      go_quiet (fail)
      go_wp2_with fail
      go_ret
      exact ⟨ret_bool HF.out.symm, _, rfl⟩
    · have HF := Lib.hid (show (GE.byt b).holds true c = (((lowerC c).toNat : Int) == (lowerC b).toNat) from by rw [u8_beq] at q ⊢; simp [GE.holds, q])
      generalize lowerC c = lc at *
      generalize lowerC b = lb at *
      go_enter Tryd.func90, Tryd.ntmps90
      go_wp2_with fail
      go_quiet (first | (go_at_call_of 91 c; refine Calls.quiet_of_same (HC _).out) | (go_at_call_of 91 b; refine Calls.quiet_of_same (HB _).out))
      go_wp2_with fail
      go_ret
      exact ⟨ret_bool HF.out.symm, _, rfl⟩
  · have HF := Lib.hid (show (GE.byt b).holds f c = true from by rw [u8_beq] at q; simp [GE.holds, q])
    go_enter Tryd.func90, Tryd.ntmps90
    go_wp2_with fail
    go_quiet (fail)
    go_wp2_with fail
    go_ret
    exact ⟨ret_bool HF.out.symm, _, rfl⟩

theorem inR_at {rs : List (UInt8 × UInt8)} {k : Nat} {r : UInt8 × UInt8} {c : UInt8} (h : rs[k]? = some r) (h1 : r.1.toNat ≤ c.toNat) (h2 : c.toNat ≤ r.2.toNat) : inR rs c = true := by
  unfold inR
  rw [List.any_eq_true]
  exact ⟨r, List.mem_of_getElem? h, by simp [h1, h2]⟩
theorem inR_step {rs : List (UInt8 × UInt8)} {k : Nat} {r : UInt8 × UInt8} {c : UInt8} (h : rs[k]? = some r) (h0 : inR (rs.take k) c = false) (h1 : ¬ (r.1.toNat ≤ c.toNat ∧ c.toNat ≤ r.2.toNat)) : inR (rs.take (k + 1)) c = false := by
  unfold inR at *
  rw [List.take_add_one, List.any_append, h0, h]
  simp
  omega

set_option maxHeartbeats 1000000 in
theorem in_any (v : Value) (rs : List (UInt8 × UInt8)) (c : UInt8) (br : Nat) (w : World) (hv : RangesAt w v rs) (hb : w.cell? ⟨br, 0, none⟩ = some v) :
    Calls Tryd.prog 92 #[.int .u8 c.toNat, .pointer (some ⟨br, 0, none⟩)] w fun e w' => e = .returned (.bool (inR rs c)) ∧ Ext w w' := by
  obtain ⟨a, cap, rfl, h1, h2, hr⟩ := hv
  unfold maxLen at h2
  have HR := Lib.hid hr
  clear hr
  go_enter Tryd.func92, Tryd.ntmps92
  go_wp2_with fail
  go_loopw [8] (fun i wr => ∃ k : Nat, k ≤ rs.length ∧ i = .int .i64 k ∧ Hid (inR (rs.take k) c = false) ∧ Hid (Ext w wr)) (fun i _ => rs.length - (intOf i).toNat)
  case atStart => exact ⟨0, Nat.zero_le _, rfl, rfl, Ext.refl _⟩
  case round =>
    obtain ⟨k, hk, rfl, H, X⟩ := hrel
    by_cases hlt : k < rs.length
    · obtain ⟨r, hx⟩ : ∃ r, rs[k]? = some r := ⟨_, List.getElem?_eq_getElem hlt⟩
      obtain ⟨g, rfl, c1, c2⟩ := HR.out k r hx
      have c1' : wr.cell? ⟨g, k * 2, none⟩ = some (.int .u8 r.1.toNat) := by rw [X.out.cell (lt_of_cell c1), Nat.mul_comm]; exact c1
      have c2' : wr.cell? ⟨g, k * 2 + 1, none⟩ = some (.int .u8 r.2.toNat) := by rw [X.out.cell (lt_of_cell c2), Nat.mul_comm]; exact c2
      clear c1 c2
      by_cases t : r.1.toNat ≤ c.toNat
      · by_cases t2 : c.toNat ≤ r.2.toNat
        · have HT := Lib.hid (inR_at hx t t2)
          go_wp2_with fail
          go_ret
          exact ⟨ret_bool HT.out.symm, X.out.alloc _⟩
        · have HT := Lib.hid (inR_step hx H.out (c := c) (fun q => t2 q.2))
          go_wp2_with fail
          go_roundw
          case rel => exact ⟨k + 1, by omega, by go_num, HT.out, X.out.alloc _⟩
          case measure => simp [intOf]; omega
      · have HT := Lib.hid (inR_step hx H.out (c := c) (fun q => t q.1))
        go_wp2_with fail
        go_roundw
        case rel => exact ⟨k + 1, by omega, by go_num, HT.out, X.out.alloc _⟩
        case measure => simp [intOf]; omega
    · have : k = rs.length := by omega
      subst this
      have HT := Lib.hid (show inR rs c = false from by have := H.out; rwa [List.take_length] at this)
      go_wp2_with fail
      go_ret
      exact ⟨ret_bool HT.out.symm, X.out⟩

set_option maxHeartbeats 1000000 in
theorem within_any (v : Value) (rs : List (UInt8 × UInt8)) (c : UInt8) (w : World) (hv : RangesAt w v rs) :
    Calls Tryd.prog 98 #[v, .int .u8 c.toNat] w fun e w' => e = .returned (.bool (inR rs c)) ∧ ∃ n, w' = w.drewN n := by
  obtain ⟨a, cap, rfl, h1, h2, hr⟩ := hv
  unfold maxLen at h2
  have HR := Lib.hid hr
  clear hr
  go_enter Tryd.func98, Tryd.ntmps98
  go_wp2_with fail
  go_loopw [5] (fun i wr => ∃ k : Nat, k ≤ rs.length ∧ i = .int .i64 k ∧ Hid (inR (rs.take k) c = false) ∧ Hid (∃ n, wr = w.drewN n)) (fun i _ => rs.length - (intOf i).toNat)
  case atStart => exact ⟨0, Nat.zero_le _, rfl, rfl, 0, rfl⟩
  case round =>
    obtain ⟨k, hk, rfl, H, X⟩ := hrel
    obtain ⟨n, rfl⟩ := X.out
    clear X
    by_cases hlt : k < rs.length
    · obtain ⟨r, hx⟩ : ∃ r, rs[k]? = some r := ⟨_, List.getElem?_eq_getElem hlt⟩
      obtain ⟨g, rfl, c1, c2⟩ := HR.out k r hx
      have c1' : w.cell? ⟨g, k * 2, none⟩ = some (.int .u8 r.1.toNat) := by rw [Nat.mul_comm]; exact c1
      have c2' : w.cell? ⟨g, k * 2 + 1, none⟩ = some (.int .u8 r.2.toNat) := by rw [Nat.mul_comm]; exact c2
      clear c1 c2
      by_cases t : r.1.toNat ≤ c.toNat
      · by_cases t2 : c.toNat ≤ r.2.toNat
        · have HT := Lib.hid (inR_at hx t t2)
          go_wp2_with fail
          go_ret
          exact ⟨ret_bool HT.out.symm, _, rfl⟩
        · have HT := Lib.hid (inR_step hx H.out (c := c) (fun q => t2 q.2))
          go_wp2_with fail
          go_roundw
          case rel => exact ⟨k + 1, by omega, by go_num, HT.out, _, rfl⟩
          case measure => simp [intOf]; omega
      · have HT := Lib.hid (inR_step hx H.out (c := c) (fun q => t q.1))
        go_wp2_with fail
        go_roundw
        case rel => exact ⟨k + 1, by omega, by go_num, HT.out, _, rfl⟩
        case measure => simp [intOf]; omega
    · have : k = rs.length := by omega
      subst this
      have HT := Lib.hid (show inR rs c = false from by have := H.out; rwa [List.take_length] at this)
      go_wp2_with fail
      go_ret
      exact ⟨ret_bool HT.out.symm, _, rfl⟩

theorem holds_set_slash (f neg : Bool) (rs : List (UInt8 × UInt8)) : (GE.set neg rs).holds f 47 = false := rfl
theorem holds_set (f neg : Bool) (rs : List (UInt8 × UInt8)) (c : UInt8) (h : c ≠ 47) : (GE.set neg rs).holds f c = (neg != (inR rs c || f && (inR rs (lowerC c) || inR rs (upperC c)))) := by
  simp [GE.holds, h]

theorem RangesAt.ext {w w' : World} {v : Value} {rs : List (UInt8 × UInt8)} (h : RangesAt w v rs) (k : Ext w w') : RangesAt w' v rs := by
  obtain ⟨a, cap, h1, h2, h3, h4⟩ := h
  refine ⟨a, cap, h1, h2, h3, fun j r hj => ?_⟩
  obtain ⟨g, h5, h6, h7⟩ := h4 j r hj
  exact ⟨g, h5, (k.cell (lt_of_cell h6)).trans h6, (k.cell (lt_of_cell h7)).trans h7⟩

/-- Ranges in a block that is far. -/
structure RangesFrom (w : World) (Far : Nat → Prop) (v : Value) (rs : List (UInt8 × UInt8)) : Prop where
  at_ : RangesAt w v rs
  far : ∀ g n cap, v = .slice (some ⟨g, 0, none⟩) n cap → Far g ∧ g < w.heap.size

set_option maxHeartbeats 4000000 in
theorem class2_any (c : UInt8) (rs : List (UInt8 × UInt8)) (f neg : Bool) (b5 b10 b0 bp br : Nat) (v : Value) (w : World) (h1 : w.cell? ⟨b5, 0, none⟩ = some (.bool neg))
    (h2 : w.cell? ⟨b10, 0, none⟩ = some (.func (.func 92) #[] #[.pointer (some ⟨br, 0, none⟩)])) (h3 : w.cell? ⟨b0, 0, none⟩ = some (.pointer (some ⟨bp, 0, none⟩)))
    (h4 : w.cell? ⟨bp, 3, none⟩ = some (.bool f)) (h5 : w.cell? ⟨br, 0, none⟩ = some v) (h6 : RangesAt w v rs) :
    Calls Tryd.prog 93 #[.int .u8 c.toNat, .pointer (some ⟨b5, 0, none⟩), .pointer (some ⟨b10, 0, none⟩), .pointer (some ⟨b0, 0, none⟩)] w fun e w' =>
      e = .returned (.bool ((GE.set neg rs).holds f c)) ∧ Ext w w' := by
  have HI := fun (c : UInt8) (x : After w) => Lib.hid (in_any v rs c br x.v (h6.ext x.x) (After.cell h5 x))
  clear h5 h6
  have g1 := After.cell h1
  have g2 := After.cell h2
  have g3 := After.cell h3
  have g4 := After.cell h4
  clear h1 h2 h3 h4
  by_cases q : c = 47
  · subst q
    rw [holds_set_slash]
    go_enter Tryd.func93, Tryd.ntmps93
    go_wp2_with fail
    go_quiet (fail)
    go_wp2_with fail
    go_ret
    exact ⟨rfl, (Ext.refl w).drewN _⟩
  · have q2 : ((c.toNat : Int) != 47) = true := by rw [bne, toNat_ne47 q]; rfl
    rw [holds_set f neg rs c q]
    have HC := fun w => Lib.hid (lower_any c w)
    have HU := fun w => Lib.hid (upper_any c w)
    have HIc := fun x => Lib.hid (HI c x).out
    have HIl := fun x => Lib.hid (HI (lowerC c) x).out
    have HIu := fun x => Lib.hid (HI (upperC c) x).out
    clear HI
    generalize lowerC c = lc at *
    generalize upperC c = uc at *
    generalize inR rs c = i1 at *
    generalize inR rs lc = i2 at *
    generalize inR rs uc = i3 at *
    cases i1
    · cases f
      · clear HIl HIu HC HU
        go_enter Tryd.func93, Tryd.ntmps93
        go_wp2_with fail
        refine wp_region_after (by kernel_rfl) (by kernel_rfl) ?_
        repeat (go_big_quiet_step (first | (go_at_call_of 92 c; exact After.of (HIc _).out)))
        refine wpQuiet_nil ?_
        rintro _ ⟨x, rfl⟩
        go_wp2_with fail
        go_ret
        exact ⟨ret_bool (by first | (simp; done) | (cases neg <;> cases i3 <;> rfl)), x.x⟩
      · cases i2
        · go_enter Tryd.func93, Tryd.ntmps93
          go_wp2_with fail
          refine wp_region_after (by kernel_rfl) (by kernel_rfl) ?_
          repeat (go_big_quiet_step (first | (go_at_call_of 91 c; exact After.same (HC _).out) | (go_at_call_of 94 c; exact After.same (HU _).out) | (go_at_call_of 92 c; exact After.of (HIc _).out) | (go_at_call_of 92 lc; exact After.of (HIl _).out) | (go_at_call_of 92 uc; exact After.of (HIu _).out)))
          refine wpQuiet_nil ?_
          rintro _ ⟨x, rfl⟩
          go_wp2_with fail
          go_ret
          exact ⟨ret_bool (by first | (simp; done) | (cases neg <;> cases i3 <;> rfl)), x.x⟩
        · go_enter Tryd.func93, Tryd.ntmps93
          go_wp2_with fail
          refine wp_region_after (by kernel_rfl) (by kernel_rfl) ?_
          repeat (go_big_quiet_step (first | (go_at_call_of 91 c; exact After.same (HC _).out) | (go_at_call_of 92 c; exact After.of (HIc _).out) | (go_at_call_of 92 lc; exact After.of (HIl _).out)))
          refine wpQuiet_nil ?_
          rintro _ ⟨x, rfl⟩
          go_wp2_with fail
          go_ret
          exact ⟨ret_bool (by first | (simp; done) | (cases neg <;> cases i3 <;> rfl)), x.x⟩
    · clear HIl HIu HC HU
      go_enter Tryd.func93, Tryd.ntmps93
      go_wp2_with fail
      refine wp_region_after (by kernel_rfl) (by kernel_rfl) ?_
      repeat (go_big_quiet_step (first | (go_at_call_of 92 c; exact After.of (HIc _).out)))
      refine wpQuiet_nil ?_
      rintro _ ⟨x, rfl⟩
      go_wp2_with fail
      go_ret
      exact ⟨ret_bool (by first | (simp; done) | (cases neg <;> cases i3 <;> rfl)), x.x⟩
end Go.Proofs.YtlabhbeacogfbaaDoor
