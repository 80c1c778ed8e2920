/- Numbers in so many digits: what the program pads is what the document's Digits gives; two numbers with the same digits are one. No program in sight. -/
import Derived.Test.YtgojagdjlebnnaaDoorPathD
namespace Go.Proofs.YtgojagdjlebnnaaDoor

/-- so many digits, noughts ahead -/
def fixed (n : Nat) : Nat → List UInt8
  | 0 => []
  | d + 1 => fixed (n / 10) d ++ [UInt8.ofNat (48 + n % 10)]

theorem fixed_length (d : Nat) : ∀ n, (fixed n d).length = d := by
  induction d with
  | zero => intro n; rfl
  | succ d ih => intro n; simp [fixed, ih]

theorem repeat_snoc (x : UInt8) : ∀ k, Lib.repeatL [x] (k + 1) = Lib.repeatL [x] k ++ [x]
  | 0 => rfl
  | k + 1 => by
    show [x] ++ Lib.repeatL [x] (k + 1) = ([x] ++ Lib.repeatL [x] k) ++ [x]
    rw [repeat_snoc x k, List.append_assoc]

theorem fixed_zero : ∀ d, fixed 0 d = Lib.repeatL [48] d
  | 0 => rfl
  | d + 1 => by rw [repeat_snoc, ← fixed_zero d]; rfl

theorem dec_le : ∀ (d n : Nat), 1 ≤ d → n < 10 ^ d → (Lib.decDigits n).length ≤ d
  | 0, n, h, _ => by omega
  | d + 1, n, _, hn => by
    by_cases h : n < 10
    · rw [Lib.decDigits_one h]; simp
    · rw [Lib.decDigits, dif_neg h, List.length_append]
      have : 1 ≤ d := by
        rcases Nat.eq_zero_or_pos d with h0 | h0
        · subst h0; simp at hn; omega
        · exact h0
      have h2 : n / 10 < 10 ^ d := by rw [Nat.pow_succ] at hn; omega
      have := dec_le d (n / 10) this h2
      simp; omega

theorem pad_fixed : ∀ (d n : Nat), 1 ≤ d → n < 10 ^ d → Lib.repeatL [48] (d - (Lib.decDigits n).length) ++ Lib.decDigits n = fixed n d
  | 0, n, h, _ => by omega
  | d + 1, n, _, hn => by
    by_cases h : n < 10
    · rw [Lib.decDigits_one h]
      have e1 : n / 10 = 0 := by omega
      have e2 : n % 10 = n := by omega
      show Lib.repeatL [48] (d + 1 - 1) ++ _ = fixed (n / 10) d ++ _
      rw [e1, e2, fixed_zero]; rfl
    · have hd : 1 ≤ d := by
        rcases Nat.eq_zero_or_pos d with h0 | h0
        · subst h0; simp at hn; omega
        · exact h0
      have h2 : n / 10 < 10 ^ d := by rw [Nat.pow_succ] at hn; omega
      have hl := dec_le d (n / 10) hd h2
      have ih := pad_fixed d (n / 10) hd h2
      rw [Lib.decDigits, dif_neg h, List.length_append]
      show Lib.repeatL [48] (d + 1 - ((Lib.decDigits (n / 10)).length + 1)) ++ (Lib.decDigits (n / 10) ++ _) = fixed (n / 10) d ++ _
      rw [show d + 1 - ((Lib.decDigits (n / 10)).length + 1) = d - (Lib.decDigits (n / 10)).length from by omega, ← List.append_assoc, ih]

theorem fixed_inj : ∀ (d n m : Nat), n < 10 ^ d → m < 10 ^ d → fixed n d = fixed m d → n = m
  | 0, n, m, hn, hm, _ => by simp at hn hm; omega
  | d + 1, n, m, hn, hm, h => by
    have h1 := List.append_inj' h rfl
    have e1 := fixed_inj d (n / 10) (m / 10) (by rw [Nat.pow_succ] at hn; omega) (by rw [Nat.pow_succ] at hm; omega) h1.1
    have e2 : UInt8.ofNat (48 + n % 10) = UInt8.ofNat (48 + m % 10) := by simpa using h1.2
    have e3 := congrArg UInt8.toNat e2
    simp only [UInt8.toNat_ofNat'] at e3
    omega

theorem padS_toList (n : Int) (d : Nat) (h0 : 0 ≤ n) (hd : 1 ≤ d) (h : n.toNat < 10 ^ d) : (padS n d).toList = fixed n.toNat d := by
  obtain ⟨k, rfl⟩ := Int.eq_ofNat_of_zero_le h0
  rw [Int.toNat_natCast] at h ⊢
  have e : Lib.itoa (k : Int) = Lib.decDigits k := by unfold Lib.itoa; rw [if_neg (by omega)]; simp
  unfold padS itoaS
  rw [toList_append, toList_mk, toList_mk, e, size_mk]
  simp only [List.size_toArray]
  exact pad_fixed d k hd h

theorem itoaS_le (n : Int) (h0 : 0 ≤ n) (h : n ≤ 9223372036854775807) : (itoaS n).size ≤ 100 := by
  obtain ⟨k, rfl⟩ := Int.eq_ofNat_of_zero_le h0
  have e : Lib.itoa (k : Int) = Lib.decDigits k := by unfold Lib.itoa; rw [if_neg (by omega)]; simp
  unfold itoaS
  rw [e, size_mk]
  have := dec_le 100 k (by decide) (Nat.lt_of_le_of_lt (by omega : k ≤ 9223372036854775807) (by decide))
  simpa using this
end Go.Proofs.YtgojagdjlebnnaaDoor
