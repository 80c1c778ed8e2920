/- Contracts of caravan/caravanref02: digit, Digits, ext. -/
import Derived.Test.YtgojagdjlebnnaaDoorRPathA
import Derived.Test.YtgojagdjlebnnaaDoorDigits
namespace Go.Proofs.YtgojagdjlebnnaaDoor
open Go.RowKit

theorem refDigit_any (c : UInt8) (w : World) :
    Calls Tryd.prog 61 #[.int .u8 c.toNat] w fun e w' => e = .returned (.bool (isDig c)) ∧ w' = w := by
  have HD := Lib.hid (show isDig c = if (48 : Int) ≤ c.toNat then decide ((c.toNat : Int) ≤ 57) else false from by
    unfold isDig
    split
    · rw [Bool.eq_iff_iff]; simp; omega
    · simp; omega)
  rw [HD.out]
  by_cases h : (48 : Int) ≤ c.toNat
  · rw [if_pos h]
    go_enter Tryd.func61, Tryd.ntmps61
    go_wp2_with fail
    go_ret
    exact ⟨rfl, rfl⟩
  · rw [if_neg h]
    have h2 : decide ((48 : Int) ≤ c.toNat) = false := by simp; omega
    go_enter Tryd.func61, Tryd.ntmps61
    go_wp2_with fail
    go_ret
    exact ⟨rfl, rfl⟩
theorem conv_one (w : World) (c : UInt8) : (convert 43 9 (.slice (some ⟨w.heap.size, 0, none⟩) 1 1)).run Tryd.prog (w.alloc (.cells #[.int .u8 c.toNat] 5)) = .ok (.string ⟨#[c]⟩) (w.alloc (.cells #[.int .u8 c.toNat] 5)) := by
  exact run_convert_bytes_back (w.alloc (.cells #[.int .u8 c.toNat] 5)) 43 9 5 ⟨w.heap.size, 0, none⟩ 1 [c] Tryd.underlying43 (by kernel_rfl) Tryd.underlying9 (fun j hj => by
    have : j = 0 := by simp at hj; exact hj
    subst this
    rw [show (⟨w.heap.size, 0, none⟩ : Addr).add 0 = ⟨w.heap.size, 0, none⟩ from rfl, cellB (heap_alloc_new w _)]; rfl)

set_option maxHeartbeats 1000000 in
set_option maxRecDepth 100000 in
theorem refDigits_any (n d : Nat) (w : World) (hn : n ≤ 9223372036854775807) (hd : d ≤ 100) :
    Calls Tryd.prog 58 #[.int .i64 n, .int .i64 d] w fun e w' => e = .returned (.string (bsL (fixed n d))) ∧ Ext w w' := by
  obtain ⟨F, hF⟩ : ∃ F, F = fixed n d := ⟨_, rfl⟩
  have HF := Lib.hid hF
  rw [← hF]
  clear hF
  go_enter Tryd.func58, Tryd.ntmps58
  go_wp2_with fail
  go_loopw [0, 5, 6] (fun nv sv iv wr => Hid (∃ (m i : Nat) (s : ByteArray), i ≤ d ∧ nv = .int .i64 m ∧ m ≤ 9223372036854775807 ∧ sv = .string s ∧ s.size = i ∧ iv = .int .i64 i ∧ F = fixed m (d - i) ++ s.toList ∧ Ext w wr)) (fun _ _ iv _ => d - (intOf iv).toNat)
  case atStart => exact ⟨n, 0, ⟨#[]⟩, by omega, rfl, hn, rfl, rfl, rfl, by rw [HF.out]; rw [show (⟨#[]⟩ : ByteArray).toList = [] from toList_mk []]; simp, Ext.refl _⟩
  case round =>
    obtain ⟨m, i, s, hi, rfl, hm, rfl, hs, rfl, hE, hx⟩ := hrel.out
    clear hrel
    have HX := Lib.hid hx
    have HE := Lib.hid hE
    clear hx hE
    by_cases hlt : i < d
    · obtain ⟨c, hc⟩ : ∃ c, c = UInt8.ofNat (48 + m % 10) := ⟨_, rfl⟩
      have hcn : (48 : Int) + (m : Int) % 10 = (c.toNat : Int) := by rw [hc, UInt8.toNat_ofNat']; omega
      have HN := Lib.hid (show F = fixed (m / 10) (d - (i + 1)) ++ (⟨#[c]⟩ ++ s : ByteArray).toList from by
        rw [HE.out, show d - i = (d - (i + 1)) + 1 from by omega, fixed, ← hc, toList_append, List.append_assoc]
        rw [show (⟨#[c]⟩ : ByteArray).toList = [c] from toList_mk [c]])
      have hcv := conv_one wr c
      have hcl := c.toNat_lt
      clear hc
      go_wp2_with fail
      refine ⟨⟨m / 10, i + 1, ⟨#[c]⟩ ++ s, by omega, by go_num, by omega, rfl, ?_, by go_num, HN.out, HX.out.alloc _⟩, by simp [intOf]; omega⟩
      rw [ByteArray.size_append, size_mk, hs]; simp; omega
    · have e : d - i = 0 := by omega
      have HN := Lib.hid (show s = bsL F from by rw [HE.out, e]; exact (eq_bsL s))
      clear e
      go_wp2_with fail
      go_ret
      exact ⟨ret_str HN.out, HX.out⟩

set_option maxHeartbeats 1000000 in
set_option maxRecDepth 100000 in
theorem refExt_any (s : ByteArray) (w : World) (hs : s.size ≤ 4294967281) :
    Calls Tryd.prog 57 #[.string s] w fun e w' => e = .returned (.string (extS s)) ∧ w' = w := by
  obtain ⟨X, hX⟩ : ∃ X, X = extS s := ⟨_, rfl⟩
  obtain ⟨L, hL⟩ : ∃ L, L = Lib.lastIndexByte s 46 := ⟨_, rfl⟩
  have HX := Lib.hid (show X = if 0 < L ∧ (s.size : Int) - L ≤ 8 then s.extract L.toNat s.size else ⟨#[]⟩ from by rw [hX, hL]; rfl)
  have HL := Lib.hid (show Lib.lastIdx s 46 s.size = L from hL.symm)
  have HHIT := Lib.hid (fun (k : Nat) (h : k < s.size) (e : s[k] = 46) => Lib.lastIdx_hit s 46 k (by rw [getElem!_pos s.data k (by simpa using h)]; exact congrArg (fun c : UInt8 => (c.toNat : Int)) e))
  have HMISS := Lib.hid (fun (k : Nat) (h : k < s.size) (e : s[k] ≠ 46) => Lib.lastIdx_miss s 46 k (by
    rw [getElem!_pos s.data k (by simpa using h)]
    intro e2
    exact e (UInt8.toNat_inj.1 (by have e3 : (s.data[k]'(by simpa using h)).toNat = 46 := by omega
                                   exact e3))))
  rw [← hX]
  clear hX hL
  go_enter Tryd.func57, Tryd.ntmps57
  go_wp2_with fail
  go_loopw [3] (fun iv wr => Hid (∃ k : Nat, k ≤ s.size ∧ iv = .int .i64 ((k : Int) - 1) ∧ Lib.lastIdx s 46 k = L ∧ wr = w)) (fun iv _ => (intOf iv + 1).toNat)
  case atStart => exact ⟨s.size, Nat.le_refl _, rfl, HL.out, rfl⟩
  case round =>
    obtain ⟨k, hk, rfl, hlk, hw⟩ := hrel.out
    have HLK := Lib.hid hlk
    have HW := Lib.hid hw
    clear hrel hlk hw HL
    match k, hk, HLK with
    | 0, _, HLK =>
      have HE := Lib.hid (show X = ⟨#[]⟩ from by rw [HX.out, if_neg]; have := HLK.out; rw [Lib.lastIdx] at this; omega)
      go_wp2_with fail
      go_ret
      exact ⟨ret_str HE.out.symm, HW.out⟩
    | 1, h1, HLK =>
      have HE := Lib.hid (show X = ⟨#[]⟩ from by
        rw [HX.out, if_neg]
        by_cases e : s[0] = 46
        · have h5 := HHIT.out 0 h1 e
          have h6 := HLK.out
          rw [show (0 : Nat) + 1 = 1 from rfl, h6] at h5
          omega
        · have h5 := HMISS.out 0 h1 e
          rw [show (0 : Nat) + 1 = 1 from rfl, HLK.out, Lib.lastIdx] at h5
          omega)
      go_wp2_with fail
      go_ret
      exact ⟨ret_str HE.out.symm, HW.out⟩
    | c + 2, h1, HLK =>
      rw [show ((c + 2 : Nat) : Int) - 1 = ((c + 1 : Nat) : Int) from by omega]
      have hci : c + 1 < s.size := by omega
      by_cases e : s[c + 1] = 46
      · have HLC := Lib.hid (show L = ((c + 1 : Nat) : Int) from by rw [← HLK.out]; exact HHIT.out (c + 1) hci e)
        have d1 : ((s[c + 1].toNat : Int) == 46) = true := by rw [e]; rfl
        clear e
        by_cases h8 : (s.size : Int) - ((c + 1 : Nat) : Int) ≤ 8
        · have HE := Lib.hid (show X = s.extract (c + 1) s.size from by rw [HX.out, HLC.out, if_pos ⟨by omega, h8⟩]; rfl)
          go_wp2_with fail
          go_ret
          exact ⟨ret_str HE.out.symm, HW.out⟩
        · have HE := Lib.hid (show X = ⟨#[]⟩ from by rw [HX.out, HLC.out, if_neg]; omega)
          go_wp2_with fail
          go_ret
          exact ⟨ret_str HE.out.symm, HW.out⟩
      · have HLC := Lib.hid ((HMISS.out (c + 1) hci e).symm.trans HLK.out)
        have d1 : ((s[c + 1].toNat : Int) == 46) = false := by
          rw [beq_eq_false_iff_ne]
          intro e2
          exact e (UInt8.toNat_inj.1 (by have e3 : s[c + 1].toNat = 46 := by omega
                                         exact e3))
        clear e
        go_wp2_with fail
        exact ⟨⟨c + 1, by omega, by go_num, HLC.out, HW.out⟩, by simp [intOf]; omega⟩
end Go.Proofs.YtgojagdjlebnnaaDoor
