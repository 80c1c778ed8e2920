/- Contracts of caravan/caravanref01: Square, Cube; their tables. -/
import Derived.Test.YtgojagdjlebnnaaDoorRShaB
namespace Go.Proofs.YtgojagdjlebnnaaDoor
open Go.RowKit

/-- The greatest number below a power of two that is good, bit by bit. -/
def rootN (ok : Nat → Bool) : Nat → Nat → Nat
  | 0, r => r
  | b + 1, r => rootN ok b (if ok (r + 2 ^ b) then r + 2 ^ b else r)
def okSq (p x : Nat) : Bool := decide (x * x ≤ p * 18446744073709551616)
def okCu (p x : Nat) : Bool := decide (x * x * x ≤ p * 4294967296 * 18446744073709551616)
def squareN (p : Nat) : Nat := rootN (okSq p) 37 0
def cubeN (p : Nat) : Nat := rootN (okCu p) 36 0
theorem rootN_lt (ok : Nat → Bool) : ∀ b r m, r + 2 ^ b ≤ m → rootN ok b r < m := by
  intro b
  induction b with
  | zero => intro r m h; simp at h; unfold rootN; omega
  | succ b ih =>
    intro r m h
    rw [Nat.pow_succ] at h
    unfold rootN
    exact ih _ _ (by split <;> omega)
theorem split64 (y : Nat) : y / 18446744073709551616 * 18446744073709551616 + y % 18446744073709551616 = y := by omega

set_option maxHeartbeats 1000000 in
set_option maxRecDepth 100000 in
theorem rsquare_any (p : Nat) (hp : p ≤ 400) (w : World) :
    Calls Tryd.prog 76 #[.int .u64 p] w fun e w' => e = .returned (.int .u32 (squareN p % 4294967296 : Nat)) ∧ w' = w := by
  obtain ⟨R, hR⟩ : ∃ R, R = squareN p := ⟨_, rfl⟩
  have HR := Lib.hid (show rootN (okSq p) 37 0 = R from hR.symm)
  rw [← hR]
  clear hR
  have HT := fun x hl hx hs w => Lib.hid (rtimes_any 0 x x hl hx hs w)
  have HA := fun hi lo h1 h2 w => Lib.hid (rabove_0 hi lo p h1 h2 (by omega) w)
  go_enter Tryd.func76, Tryd.ntmps76
  go_wp2_with fail
  go_loopw [3, 4] (fun rv bv wr => Hid (∃ r b : Nat, b ≤ 37 ∧ rv = .int .u64 r ∧ bv = .int .i64 ((b : Int) - 1) ∧ r + 2 ^ b ≤ 2 ^ 37 ∧ rootN (okSq p) b r = R ∧ wr = w)) (fun _ bv _ => (intOf bv + 1).toNat)
  case atStart => exact ⟨0, 37, by omega, rfl, rfl, by omega, HR.out, rfl⟩
  case round =>
    obtain ⟨r, b, hb, rfl, rfl, hr, hR, rfl⟩ := hrel.out
    clear hrel HR
    match b, hb, hr, hR with
    | 0, _, _, hR =>
      have HR := Lib.hid (show r = R from hR)
      clear hR
      go_wp2_with fail
      go_ret
      exact ⟨ret_int (by rw [← HR.out]; omega), rfl⟩
    | c + 1, hb, hr, hR =>
      rw [rootN] at hR
      rw [Nat.pow_succ] at hr
      have e1 : ((c + 1 : Nat) : Int) - 1 = (c : Int) := by omega
      rw [e1]
      clear e1
      obtain ⟨q, hq⟩ : ∃ q, q = 2 ^ c := ⟨_, rfl⟩
      obtain ⟨x, hx⟩ : ∃ x, x = r + q := ⟨_, rfl⟩
      have HXQ := Lib.hid (show 2 ^ c + r = x from by rw [hx, hq]; omega)
      have HR2 := Lib.hid (show x + 2 ^ c ≤ 2 ^ 37 from by rw [hx, hq]; omega)
      have HR3 := Lib.hid (show r + 2 ^ c ≤ 2 ^ 37 from by omega)
      rw [← hq] at hr hR
      rw [← hx] at hR
      have hq0 : 0 < q := by rw [hq]; exact Nat.two_pow_pos c
      have hxb : x < 137438953472 := by omega
      have hs : IntKind.u64.wrap ((2 : Int) ^ c) = (q : Int) := by
        rw [show (2 : Int) ^ c = ((2 ^ c : Nat) : Int) from (Int.natCast_pow 2 c).symm, ← hq, IntKind.wrap_u64]; omega
      have hs2 : IntKind.u64.wrap ((r : Int) + q) = (x : Int) := by rw [IntKind.wrap_u64]; omega
      clear hq hx hr
      have hxx : x * x ≤ 137438953472 * 137438953472 := Nat.mul_le_mul (by omega) (by omega)
      obtain ⟨h1, hh1⟩ : ∃ h, h = x * x / 18446744073709551616 := ⟨_, rfl⟩
      obtain ⟨l1, hl1⟩ : ∃ h, h = x * x % 18446744073709551616 := ⟨_, rfl⟩
      have HC1 := Lib.hid (HT x (by omega) (by omega) (by omega) wr).out
      have HC2 := Lib.hid (HA h1 l1 (by omega) (by omega) wr).out
      rw [← hh1, ← hl1, Nat.zero_mul, Nat.add_zero] at HC1
      have hdec : decide (p * 18446744073709551616 < h1 * 18446744073709551616 + l1) = !okSq p x := by
        rw [hh1, hl1, split64]
        unfold okSq
        rw [← decide_not, decide_eq_decide]; omega
      clear hh1 hl1
      have HDEC := Lib.hid hdec
      clear hdec
      cases hok : okSq p x
      · rw [hok] at hR HDEC
        rw [if_neg (by decide)] at hR
        have HR := Lib.hid hR
        clear hR hok
        go_wp2_with fail
        refine HC1.out.mono ?_
        rintro e w1 ⟨rfl, rfl⟩
        go_wp2_with fail
        refine HC2.out.mono ?_
        rintro e w1 ⟨rfl, rfl⟩
        rw [HDEC.out]
        go_wp2_with fail
        go_roundw
        case rel => exact ⟨r, c, by omega, rfl, by go_num, HR3.out, HR.out, trivial⟩
        case measure => simp [intOf]
      · rw [hok] at hR HDEC
        rw [if_pos rfl] at hR
        have HR := Lib.hid hR
        clear hR hok
        go_wp2_with fail
        refine HC1.out.mono ?_
        rintro e w1 ⟨rfl, rfl⟩
        go_wp2_with fail
        refine HC2.out.mono ?_
        rintro e w1 ⟨rfl, rfl⟩
        rw [HDEC.out]
        go_wp2_with fail
        go_roundw
        case rel => exact ⟨x, c, by omega, rfl, by go_num, HR2.out, HR.out, trivial⟩
        case measure => simp [intOf]
set_option maxHeartbeats 1000000 in
set_option maxRecDepth 100000 in
theorem rcube_any (p : Nat) (hp : p ≤ 400) (w : World) :
    Calls Tryd.prog 75 #[.int .u64 p] w fun e w' => e = .returned (.int .u32 (cubeN p % 4294967296 : Nat)) ∧ w' = w := by
  obtain ⟨R, hR⟩ : ∃ R, R = cubeN p := ⟨_, rfl⟩
  have HR := Lib.hid (show rootN (okCu p) 36 0 = R from hR.symm)
  rw [← hR]
  clear hR
  have HT := fun hi lo x hl hx hs w => Lib.hid (rtimes_any hi lo x hl hx hs w)
  have HA := fun hi lo h1 h2 w => Lib.hid (rabove_32 hi lo p h1 h2 (by omega) w)
  go_enter Tryd.func75, Tryd.ntmps75
  go_wp2_with fail
  go_loopw [3, 4] (fun rv bv wr => Hid (∃ r b : Nat, b ≤ 36 ∧ rv = .int .u64 r ∧ bv = .int .i64 ((b : Int) - 1) ∧ r + 2 ^ b ≤ 2 ^ 36 ∧ rootN (okCu p) b r = R ∧ wr = w)) (fun _ bv _ => (intOf bv + 1).toNat)
  case atStart => exact ⟨0, 36, by omega, rfl, rfl, by omega, HR.out, rfl⟩
  case round =>
    obtain ⟨r, b, hb, rfl, rfl, hr, hR, rfl⟩ := hrel.out
    clear hrel HR
    match b, hb, hr, hR with
    | 0, _, _, hR =>
      have HR := Lib.hid (show r = R from hR)
      clear hR
      go_wp2_with fail
      go_ret
      exact ⟨ret_int (by rw [← HR.out]; omega), rfl⟩
    | c + 1, hb, hr, hR =>
      rw [rootN] at hR
      rw [Nat.pow_succ] at hr
      have e1 : ((c + 1 : Nat) : Int) - 1 = (c : Int) := by omega
      rw [e1]
      clear e1
      obtain ⟨q, hq⟩ : ∃ q, q = 2 ^ c := ⟨_, rfl⟩
      obtain ⟨x, hx⟩ : ∃ x, x = r + q := ⟨_, rfl⟩
      have HXQ := Lib.hid (show 2 ^ c + r = x from by rw [hx, hq]; omega)
      have HR2 := Lib.hid (show x + 2 ^ c ≤ 2 ^ 36 from by rw [hx, hq]; omega)
      have HR3 := Lib.hid (show r + 2 ^ c ≤ 2 ^ 36 from by omega)
      rw [← hq] at hr hR
      rw [← hx] at hR
      have hq0 : 0 < q := by rw [hq]; exact Nat.two_pow_pos c
      have hxb : x < 68719476736 := by omega
      have hs : IntKind.u64.wrap ((2 : Int) ^ c) = (q : Int) := by
        rw [show (2 : Int) ^ c = ((2 ^ c : Nat) : Int) from (Int.natCast_pow 2 c).symm, ← hq, IntKind.wrap_u64]; omega
      have hs2 : IntKind.u64.wrap ((r : Int) + q) = (x : Int) := by rw [IntKind.wrap_u64]; omega
      clear hq hx hr
      have hxx : x * x ≤ 68719476736 * 68719476736 := Nat.mul_le_mul (by omega) (by omega)
      have hxxx : x * x * x ≤ 68719476736 * 68719476736 * 68719476736 := Nat.mul_le_mul hxx (by omega)
      obtain ⟨h1, hh1⟩ : ∃ h, h = x * x / 18446744073709551616 := ⟨_, rfl⟩
      obtain ⟨l1, hl1⟩ : ∃ h, h = x * x % 18446744073709551616 := ⟨_, rfl⟩
      have hlx : l1 * x ≤ 18446744073709551615 * 68719476736 := Nat.mul_le_mul (by omega) (by omega)
      have hhx : h1 * x ≤ 256 * 68719476736 := Nat.mul_le_mul (by omega) (by omega)
      obtain ⟨h2, hh2⟩ : ∃ h, h = l1 * x / 18446744073709551616 + h1 * x := ⟨_, rfl⟩
      obtain ⟨l2, hl2⟩ : ∃ h, h = l1 * x % 18446744073709551616 := ⟨_, rfl⟩
      have HC1 := Lib.hid (HT 0 x x (by omega) (by omega) (by omega) wr).out
      have HC3 := Lib.hid (HT h1 l1 x (by omega) (by omega) (by omega) wr).out
      have HC2 := Lib.hid (HA h2 l2 (by omega) (by omega) wr).out
      rw [← hh1, ← hl1, Nat.zero_mul, Nat.add_zero] at HC1
      rw [← hh2, ← hl2] at HC3
      have hdec : decide (p * 4294967296 * 18446744073709551616 < h2 * 18446744073709551616 + l2) = !okCu p x := by
        have e : x * x * x = h2 * 18446744073709551616 + l2 := by
          have e1 : x * x = h1 * 18446744073709551616 + l1 := by rw [hh1, hl1, split64]
          have e2 : (h1 * 18446744073709551616 + l1) * x = h1 * x * 18446744073709551616 + l1 * x := by
            rw [Nat.add_mul, Nat.mul_right_comm]
          rw [e1, e2, hh2, hl2]
          omega
        unfold okCu
        rw [← e, ← decide_not, decide_eq_decide]; omega
      clear hh1 hl1 hh2 hl2 hxxx hlx hhx
      have HDEC := Lib.hid hdec
      clear hdec
      cases hok : okCu p x
      · rw [hok] at hR HDEC
        rw [if_neg (by decide)] at hR
        have HR := Lib.hid hR
        clear hR hok
        go_wp2_with fail
        refine HC1.out.mono ?_
        rintro e w1 ⟨rfl, rfl⟩
        go_wp2_with fail
        refine HC3.out.mono ?_
        rintro e w1 ⟨rfl, rfl⟩
        go_wp2_with fail
        refine HC2.out.mono ?_
        rintro e w1 ⟨rfl, rfl⟩
        rw [HDEC.out]
        go_wp2_with fail
        go_roundw
        case rel => exact ⟨r, c, by omega, rfl, by go_num, HR3.out, HR.out, trivial⟩
        case measure => simp [intOf]
      · rw [hok] at hR HDEC
        rw [if_pos rfl] at hR
        have HR := Lib.hid hR
        clear hR hok
        go_wp2_with fail
        refine HC1.out.mono ?_
        rintro e w1 ⟨rfl, rfl⟩
        go_wp2_with fail
        refine HC3.out.mono ?_
        rintro e w1 ⟨rfl, rfl⟩
        go_wp2_with fail
        refine HC2.out.mono ?_
        rintro e w1 ⟨rfl, rfl⟩
        rw [HDEC.out]
        go_wp2_with fail
        go_roundw
        case rel => exact ⟨x, c, by omega, rfl, by go_num, HR2.out, HR.out, trivial⟩
        case measure => simp [intOf]

theorem table_cube : primes64.map (fun p => cubeN p % 4294967296) = kTab := by decide +kernel
theorem table_square : (primes64.take 8).map (fun p => squareN p % 4294967296) = first8.list.map BitVec.toNat := by decide +kernel
theorem primes_le : ∀ p ∈ primes64, p ≤ 400 := by decide +kernel
end Go.Proofs.YtgojagdjlebnnaaDoor
