/- Contracts of caravan/caravanref01: turned, digit, prime, times, above. -/
import Derived.Test.YtgojagdjlebnnaaDoorShaA
import Derived.Test.YtgojagdjlebnnaaDoorBlk
import Derived.Test.YtgojagdjlebnnaaDoorShelf
namespace Go.Proofs.YtgojagdjlebnnaaDoor
open Go.RowKit

def primeAux : Nat → Nat → Nat → Bool
  | 0, _, _ => true
  | f + 1, d, n => if d * d ≤ n then (if n % d = 0 then false else primeAux f (d + 1) n) else true
def primeN (n : Nat) : Bool := primeAux 100 2 n && decide (1 < n)

set_option maxHeartbeats 1000000 in
set_option maxRecDepth 100000 in
theorem rprime_any (n : Nat) (hn : n ≤ 400) (w : World) :
    Calls Tryd.prog 91 #[.int .u64 n] w fun e w' => e = .returned (.bool (primeN n)) ∧ w' = w := by
  unfold primeN
  obtain ⟨B, hB⟩ : ∃ B, B = primeAux 100 2 n := ⟨_, rfl⟩
  have HB := Lib.hid hB
  rw [← hB]
  clear hB
  go_enter Tryd.func91, Tryd.ntmps91
  go_wp2_with fail
  go_loopw [3] (fun d wr => Hid (∃ k f : Nat, d = .int .u64 k ∧ 2 ≤ k ∧ k ≤ 21 ∧ f + k = 102 ∧ B = primeAux f k n ∧ wr = w)) (fun d _ => 100 - (intOf d).toNat)
  case atStart => exact ⟨2, 100, rfl, by omega, by omega, by omega, HB.out, rfl⟩
  case round =>
    obtain ⟨k, f, rfl, h2, h21, hf, hB, rfl⟩ := hrel.out
    clear hrel HB
    obtain ⟨f, rfl⟩ : ∃ g, f = g + 1 := ⟨f - 1, by omega⟩
    have hq : k * k ≤ 21 * 21 := Nat.mul_le_mul h21 h21
    rw [primeAux] at hB
    obtain ⟨q, hq'⟩ : ∃ q, q = k * k := ⟨_, rfl⟩
    have hm : IntKind.u64.wrap ((k : Int) * (k : Int)) = (q : Int) := by rw [IntKind.wrap_u64, hq', ← Int.natCast_mul]; omega
    have hle : k * k ≤ n → k + 1 ≤ 21 := fun h => by
      rcases Nat.lt_or_ge k 21 with h1 | h1
      · omega
      · have := Nat.mul_le_mul h1 h1; omega
    rw [← hq'] at hq hB hle
    by_cases hlt : q ≤ n
    · rw [if_pos hlt] at hB
      have hle := hle hlt
      by_cases hz : n % k = 0
      · rw [if_pos hz] at hB
        go_wp2_with fail
        go_ret
        exact ⟨by rw [hB]; rfl, rfl⟩
      · rw [if_neg hz] at hB
        have HB := Lib.hid hB
        clear hB
        go_wp2_with fail
        go_roundw
        case rel => exact ⟨k + 1, f, by go_num, by omega, hle, by omega, HB.out, trivial⟩
        case measure => simp [intOf]; omega
    · rw [if_neg hlt] at hB
      subst hB
      go_wp2_with fail
      go_ret
      exact ⟨by simp; omega, rfl⟩
theorem rturned_any (x : Wd) (n : Nat) (hn : 1 ≤ n) (h2 : n ≤ 31) (w : World) :
    Calls Tryd.prog 79 #[.int .u32 x.toNat, .int .i64 n] w fun e w' => e = .returned (.int .u32 (rotr x n).toNat) ∧ w' = w := by
  go_enter Tryd.func79, Tryd.ntmps79
  have HR := Lib.hid ((show bits .or .u32 ((x.toNat : Int) / 2 ^ n) ((x.toNat : Int) * 2 ^ (32 - n) % 4294967296) = ((rotr x n).toNat : Int) from by
    have e1 := wd_shr x n
    have e2 := wd_shl x (32 - n)
    rw [Int.natCast_pow] at e1 e2
    rw [show ((2 : Nat) : Int) = 2 from rfl] at e1 e2
    rw [e1, e2, wd_or]; rfl))
  go_wp2_with fail
  go_ret
  exact ⟨ret_int HR.out, rfl⟩
theorem rdigit_any (n : Nat) (hn : n < 16) (w : World) :
    Calls Tryd.prog 80 #[.int .u8 n] w fun e w' => e = .returned (.int .u8 (hexD n).toNat) ∧ w' = w := by
  have hd : ((hexD n).toNat : Int) = if n < 10 then 48 + (n : Int) else 87 + n := by
    unfold hexD byteOf
    split <;> · rw [UInt8.toNat_ofNat']; omega
  have HD := Lib.hid hd
  clear hd
  by_cases h : n < 10
  · go_enter Tryd.func80, Tryd.ntmps80
    go_wp2_with fail
    go_ret
    exact ⟨ret_int (by rw [HD.out, if_pos h]), rfl⟩
  · go_enter Tryd.func80, Tryd.ntmps80
    go_wp2_with fail
    go_ret
    exact ⟨ret_int (by rw [HD.out, if_neg h]; omega), rfl⟩
theorem rtimes_any (hi lo x : Nat) (hl : lo < 18446744073709551616) (hx : x < 18446744073709551616) (hs : lo * x / 18446744073709551616 + hi * x < 18446744073709551616) (w : World) :
    Calls Tryd.prog 92 #[.int .u64 hi, .int .u64 lo, .int .u64 x] w fun e w' => e = .returned (.tuple #[.int .u64 ((lo * x / 18446744073709551616 + hi * x : Nat) : Int), .int .u64 ((lo * x % 18446744073709551616 : Nat) : Int)]) ∧ w' = w := by
  have HC := Lib.hid (Tryd.bits_Mul64 lo x hl hx w)
  generalize lo * x / 18446744073709551616 = a at *
  generalize lo * x % 18446744073709551616 = b at *
  obtain ⟨q, hq⟩ : ∃ q, q = hi * x := ⟨_, rfl⟩
  have hm : (hi : Int) * (x : Int) = (q : Int) := by rw [hq]; exact (Int.natCast_mul hi x).symm
  rw [← hq] at hs ⊢
  clear hq
  go_enter Tryd.func92, Tryd.ntmps92
  go_wp2_with fail
  refine HC.out.mono ?_
  rintro e w1 ⟨rfl, rfl⟩
  go_wp2_with fail
  go_ret2
  exact ⟨rfl, rfl⟩
theorem rabove_0 (hi lo n : Nat) (hh : hi < 18446744073709551616) (hl : lo < 18446744073709551616) (hn : n < 4294967296) (w : World) :
    Calls Tryd.prog 93 #[.int .u64 hi, .int .u64 lo, .int .u64 n, .int .i64 0] w fun e w' => e = .returned (.bool (decide (n * 18446744073709551616 < hi * 18446744073709551616 + lo))) ∧ w' = w := by
  have e : decide (n * 18446744073709551616 < hi * 18446744073709551616 + lo) = if n < hi then true else if hi = n then decide (0 < lo) else false := by
    split
    · simp; omega
    · split
      · subst_vars; simp
      · simp; omega
  rw [e]
  clear e
  by_cases h1 : n < hi
  · rw [if_pos h1]
    go_enter Tryd.func93, Tryd.ntmps93
    go_wp2_with fail
    go_ret
    exact ⟨rfl, rfl⟩
  · rw [if_neg h1]
    by_cases h2 : hi = n
    · subst h2
      rw [if_pos rfl]
      go_enter Tryd.func93, Tryd.ntmps93
      go_wp2_with fail
      go_ret
      exact ⟨rfl, rfl⟩
    · rw [if_neg h2]
      have h3 : ((hi : Int) == n) = false := by simp; omega
      go_enter Tryd.func93, Tryd.ntmps93
      go_wp2_with fail
      go_ret
      exact ⟨rfl, rfl⟩
theorem rabove_32 (hi lo n : Nat) (hh : hi < 18446744073709551616) (hl : lo < 18446744073709551616) (hn : n < 4294967296) (w : World) :
    Calls Tryd.prog 93 #[.int .u64 hi, .int .u64 lo, .int .u64 n, .int .i64 32] w fun e w' => e = .returned (.bool (decide (n * 4294967296 * 18446744073709551616 < hi * 18446744073709551616 + lo))) ∧ w' = w := by
  obtain ⟨m, hm⟩ : ∃ m, m = n * 4294967296 := ⟨_, rfl⟩
  have hm' : (n : Int) * 4294967296 % 18446744073709551616 = (m : Int) := by omega
  have hm2 : (n : Int) * 4294967296 = (m : Int) := by omega
  rw [← hm]
  have hm3 : m < 18446744073709551616 := by omega
  clear hm
  have e : decide (m * 18446744073709551616 < hi * 18446744073709551616 + lo) = if m < hi then true else if hi = m then decide (0 < lo) else false := by
    split
    · simp; omega
    · split
      · subst_vars; simp
      · simp; omega
  rw [e]
  clear e
  by_cases h1 : m < hi
  · rw [if_pos h1]
    go_enter Tryd.func93, Tryd.ntmps93
    go_wp2_with fail
    go_ret
    exact ⟨rfl, rfl⟩
  · rw [if_neg h1]
    by_cases h2 : hi = m
    · subst h2
      rw [if_pos rfl]
      go_enter Tryd.func93, Tryd.ntmps93
      go_wp2_with fail
      go_ret
      exact ⟨rfl, rfl⟩
    · rw [if_neg h2]
      have h3 : ((hi : Int) == m) = false := by simp; omega
      go_enter Tryd.func93, Tryd.ntmps93
      go_wp2_with fail
      go_ret
      exact ⟨rfl, rfl⟩
end Go.Proofs.YtgojagdjlebnnaaDoor
