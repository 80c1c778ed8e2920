/- Contracts of caravan/sha's right and of the library's RotateLeft32; words of 32 bits as the walk spells them. -/
import Derived.Test.YtgojagdjlebnnaaDoorShaS
import Derived.Laws.BitsAllLaws
namespace Go.Proofs.YtgojagdjlebnnaaDoor
open Go.RowKit

theorem wd_ofInt (x : Wd) : BitVec.ofInt 32 (x.toNat : Int) = x := by
  rw [show ((x.toNat : Nat) : Int) = Int.ofNat x.toNat from rfl]
  apply BitVec.eq_of_toNat_eq
  rw [BitVec.toNat_ofInt]
  have := x.isLt
  simp
  omega
theorem wd_wrap (x : Wd) : IntKind.u32.wrap (x.toNat : Int) = x.toNat := by
  have := x.isLt
  rw [IntKind.wrap_u32']; omega
theorem wd_xor (x y : Wd) : bits .xor .u32 (x.toNat : Int) (y.toNat : Int) = ((x ^^^ y).toNat : Int) := by
  show IntKind.u32.wrap ((BitVec.ofInt 32 (x.toNat : Int) ^^^ BitVec.ofInt 32 (y.toNat : Int)).toNat : Int) = _
  rw [wd_ofInt, wd_ofInt, wd_wrap]
theorem wd_and (x y : Wd) : bits .and .u32 (x.toNat : Int) (y.toNat : Int) = ((x &&& y).toNat : Int) := by
  show IntKind.u32.wrap ((BitVec.ofInt 32 (x.toNat : Int) &&& BitVec.ofInt 32 (y.toNat : Int)).toNat : Int) = _
  rw [wd_ofInt, wd_ofInt, wd_wrap]
theorem wd_or (x y : Wd) : bits .or .u32 (x.toNat : Int) (y.toNat : Int) = ((x ||| y).toNat : Int) := by
  show IntKind.u32.wrap ((BitVec.ofInt 32 (x.toNat : Int) ||| BitVec.ofInt 32 (y.toNat : Int)).toNat : Int) = _
  rw [wd_ofInt, wd_ofInt, wd_wrap]
theorem wd_add (x y : Wd) : ((x.toNat : Int) + y.toNat) % 4294967296 = ((x + y).toNat : Int) := by
  rw [BitVec.toNat_add]; omega
theorem wd_shr (x : Wd) (n : Nat) : (x.toNat : Int) / ((2 ^ n : Nat) : Int) = ((x >>> n).toNat : Int) := by
  rw [BitVec.toNat_ushiftRight, Nat.shiftRight_eq_div_pow]; rfl
theorem wd_shl (x : Wd) (n : Nat) : (x.toNat : Int) * ((2 ^ n : Nat) : Int) % 4294967296 = ((x <<< n).toNat : Int) := by
  rw [BitVec.toNat_shiftLeft, Nat.shiftLeft_eq]; rfl
theorem wd_rot (x : Wd) (n : Nat) : bits .or .u32 ((x.toNat : Int) * ((2 ^ (32 - n) : Nat) : Int) % 4294967296) ((x.toNat : Int) / ((2 ^ n : Nat) : Int)) = ((rotr x n).toNat : Int) := by
  rw [wd_shl, wd_shr, wd_or, rotr, BitVec.or_comm]

def rotOk (n : Int) : Bool := [(2 : Int), (6 : Int), (7 : Int), (11 : Int), (13 : Int), (17 : Int), (18 : Int), (19 : Int), (22 : Int), (25 : Int)].contains n
theorem rot2 (x : Wd) (w : World) : Calls Tryd.prog 118 #[.int .u32 x.toNat, .int .i64 (-2)] w fun e w' => e = .returned (.int .u32 (rotr x 2).toNat) ∧ w' = w := by
  have e1 : bits BinOp.and IntKind.u64 (IntKind.u64.wrap (-2)) 31 = 30 := by decide
  have HR := Lib.hid (wd_rot x 2)
  go_enter Tryd.func118, Tryd.ntmps118
  go_wp2_with fail
  go_ret
  exact ⟨ret_int HR.out, rfl⟩
theorem right2 (x : Wd) (w : World) : Calls Tryd.prog 109 #[.int .u32 x.toNat, .int .i64 2] w fun e w' => e = .returned (.int .u32 (rotr x 2).toNat) ∧ w' = w := by
  have HR := Lib.hid (rot2 x w)
  generalize rotr x 2 = y at *
  go_enter Tryd.func109, Tryd.ntmps109
  go_wp2_with fail
  refine HR.out.mono ?_
  rintro e w1 ⟨rfl, rfl⟩
  go_wp2_with fail
  go_ret
  exact ⟨rfl, rfl⟩
theorem rot6 (x : Wd) (w : World) : Calls Tryd.prog 118 #[.int .u32 x.toNat, .int .i64 (-6)] w fun e w' => e = .returned (.int .u32 (rotr x 6).toNat) ∧ w' = w := by
  have e1 : bits BinOp.and IntKind.u64 (IntKind.u64.wrap (-6)) 31 = 26 := by decide
  have HR := Lib.hid (wd_rot x 6)
  go_enter Tryd.func118, Tryd.ntmps118
  go_wp2_with fail
  go_ret
  exact ⟨ret_int HR.out, rfl⟩
theorem right6 (x : Wd) (w : World) : Calls Tryd.prog 109 #[.int .u32 x.toNat, .int .i64 6] w fun e w' => e = .returned (.int .u32 (rotr x 6).toNat) ∧ w' = w := by
  have HR := Lib.hid (rot6 x w)
  generalize rotr x 6 = y at *
  go_enter Tryd.func109, Tryd.ntmps109
  go_wp2_with fail
  refine HR.out.mono ?_
  rintro e w1 ⟨rfl, rfl⟩
  go_wp2_with fail
  go_ret
  exact ⟨rfl, rfl⟩
theorem rot7 (x : Wd) (w : World) : Calls Tryd.prog 118 #[.int .u32 x.toNat, .int .i64 (-7)] w fun e w' => e = .returned (.int .u32 (rotr x 7).toNat) ∧ w' = w := by
  have e1 : bits BinOp.and IntKind.u64 (IntKind.u64.wrap (-7)) 31 = 25 := by decide
  have HR := Lib.hid (wd_rot x 7)
  go_enter Tryd.func118, Tryd.ntmps118
  go_wp2_with fail
  go_ret
  exact ⟨ret_int HR.out, rfl⟩
theorem right7 (x : Wd) (w : World) : Calls Tryd.prog 109 #[.int .u32 x.toNat, .int .i64 7] w fun e w' => e = .returned (.int .u32 (rotr x 7).toNat) ∧ w' = w := by
  have HR := Lib.hid (rot7 x w)
  generalize rotr x 7 = y at *
  go_enter Tryd.func109, Tryd.ntmps109
  go_wp2_with fail
  refine HR.out.mono ?_
  rintro e w1 ⟨rfl, rfl⟩
  go_wp2_with fail
  go_ret
  exact ⟨rfl, rfl⟩
theorem rot11 (x : Wd) (w : World) : Calls Tryd.prog 118 #[.int .u32 x.toNat, .int .i64 (-11)] w fun e w' => e = .returned (.int .u32 (rotr x 11).toNat) ∧ w' = w := by
  have e1 : bits BinOp.and IntKind.u64 (IntKind.u64.wrap (-11)) 31 = 21 := by decide
  have HR := Lib.hid (wd_rot x 11)
  go_enter Tryd.func118, Tryd.ntmps118
  go_wp2_with fail
  go_ret
  exact ⟨ret_int HR.out, rfl⟩
theorem right11 (x : Wd) (w : World) : Calls Tryd.prog 109 #[.int .u32 x.toNat, .int .i64 11] w fun e w' => e = .returned (.int .u32 (rotr x 11).toNat) ∧ w' = w := by
  have HR := Lib.hid (rot11 x w)
  generalize rotr x 11 = y at *
  go_enter Tryd.func109, Tryd.ntmps109
  go_wp2_with fail
  refine HR.out.mono ?_
  rintro e w1 ⟨rfl, rfl⟩
  go_wp2_with fail
  go_ret
  exact ⟨rfl, rfl⟩
theorem rot13 (x : Wd) (w : World) : Calls Tryd.prog 118 #[.int .u32 x.toNat, .int .i64 (-13)] w fun e w' => e = .returned (.int .u32 (rotr x 13).toNat) ∧ w' = w := by
  have e1 : bits BinOp.and IntKind.u64 (IntKind.u64.wrap (-13)) 31 = 19 := by decide
  have HR := Lib.hid (wd_rot x 13)
  go_enter Tryd.func118, Tryd.ntmps118
  go_wp2_with fail
  go_ret
  exact ⟨ret_int HR.out, rfl⟩
theorem right13 (x : Wd) (w : World) : Calls Tryd.prog 109 #[.int .u32 x.toNat, .int .i64 13] w fun e w' => e = .returned (.int .u32 (rotr x 13).toNat) ∧ w' = w := by
  have HR := Lib.hid (rot13 x w)
  generalize rotr x 13 = y at *
  go_enter Tryd.func109, Tryd.ntmps109
  go_wp2_with fail
  refine HR.out.mono ?_
  rintro e w1 ⟨rfl, rfl⟩
  go_wp2_with fail
  go_ret
  exact ⟨rfl, rfl⟩
theorem rot17 (x : Wd) (w : World) : Calls Tryd.prog 118 #[.int .u32 x.toNat, .int .i64 (-17)] w fun e w' => e = .returned (.int .u32 (rotr x 17).toNat) ∧ w' = w := by
  have e1 : bits BinOp.and IntKind.u64 (IntKind.u64.wrap (-17)) 31 = 15 := by decide
  have HR := Lib.hid (wd_rot x 17)
  go_enter Tryd.func118, Tryd.ntmps118
  go_wp2_with fail
  go_ret
  exact ⟨ret_int HR.out, rfl⟩
theorem right17 (x : Wd) (w : World) : Calls Tryd.prog 109 #[.int .u32 x.toNat, .int .i64 17] w fun e w' => e = .returned (.int .u32 (rotr x 17).toNat) ∧ w' = w := by
  have HR := Lib.hid (rot17 x w)
  generalize rotr x 17 = y at *
  go_enter Tryd.func109, Tryd.ntmps109
  go_wp2_with fail
  refine HR.out.mono ?_
  rintro e w1 ⟨rfl, rfl⟩
  go_wp2_with fail
  go_ret
  exact ⟨rfl, rfl⟩
theorem rot18 (x : Wd) (w : World) : Calls Tryd.prog 118 #[.int .u32 x.toNat, .int .i64 (-18)] w fun e w' => e = .returned (.int .u32 (rotr x 18).toNat) ∧ w' = w := by
  have e1 : bits BinOp.and IntKind.u64 (IntKind.u64.wrap (-18)) 31 = 14 := by decide
  have HR := Lib.hid (wd_rot x 18)
  go_enter Tryd.func118, Tryd.ntmps118
  go_wp2_with fail
  go_ret
  exact ⟨ret_int HR.out, rfl⟩
theorem right18 (x : Wd) (w : World) : Calls Tryd.prog 109 #[.int .u32 x.toNat, .int .i64 18] w fun e w' => e = .returned (.int .u32 (rotr x 18).toNat) ∧ w' = w := by
  have HR := Lib.hid (rot18 x w)
  generalize rotr x 18 = y at *
  go_enter Tryd.func109, Tryd.ntmps109
  go_wp2_with fail
  refine HR.out.mono ?_
  rintro e w1 ⟨rfl, rfl⟩
  go_wp2_with fail
  go_ret
  exact ⟨rfl, rfl⟩
theorem rot19 (x : Wd) (w : World) : Calls Tryd.prog 118 #[.int .u32 x.toNat, .int .i64 (-19)] w fun e w' => e = .returned (.int .u32 (rotr x 19).toNat) ∧ w' = w := by
  have e1 : bits BinOp.and IntKind.u64 (IntKind.u64.wrap (-19)) 31 = 13 := by decide
  have HR := Lib.hid (wd_rot x 19)
  go_enter Tryd.func118, Tryd.ntmps118
  go_wp2_with fail
  go_ret
  exact ⟨ret_int HR.out, rfl⟩
theorem right19 (x : Wd) (w : World) : Calls Tryd.prog 109 #[.int .u32 x.toNat, .int .i64 19] w fun e w' => e = .returned (.int .u32 (rotr x 19).toNat) ∧ w' = w := by
  have HR := Lib.hid (rot19 x w)
  generalize rotr x 19 = y at *
  go_enter Tryd.func109, Tryd.ntmps109
  go_wp2_with fail
  refine HR.out.mono ?_
  rintro e w1 ⟨rfl, rfl⟩
  go_wp2_with fail
  go_ret
  exact ⟨rfl, rfl⟩
theorem rot22 (x : Wd) (w : World) : Calls Tryd.prog 118 #[.int .u32 x.toNat, .int .i64 (-22)] w fun e w' => e = .returned (.int .u32 (rotr x 22).toNat) ∧ w' = w := by
  have e1 : bits BinOp.and IntKind.u64 (IntKind.u64.wrap (-22)) 31 = 10 := by decide
  have HR := Lib.hid (wd_rot x 22)
  go_enter Tryd.func118, Tryd.ntmps118
  go_wp2_with fail
  go_ret
  exact ⟨ret_int HR.out, rfl⟩
theorem right22 (x : Wd) (w : World) : Calls Tryd.prog 109 #[.int .u32 x.toNat, .int .i64 22] w fun e w' => e = .returned (.int .u32 (rotr x 22).toNat) ∧ w' = w := by
  have HR := Lib.hid (rot22 x w)
  generalize rotr x 22 = y at *
  go_enter Tryd.func109, Tryd.ntmps109
  go_wp2_with fail
  refine HR.out.mono ?_
  rintro e w1 ⟨rfl, rfl⟩
  go_wp2_with fail
  go_ret
  exact ⟨rfl, rfl⟩
theorem rot25 (x : Wd) (w : World) : Calls Tryd.prog 118 #[.int .u32 x.toNat, .int .i64 (-25)] w fun e w' => e = .returned (.int .u32 (rotr x 25).toNat) ∧ w' = w := by
  have e1 : bits BinOp.and IntKind.u64 (IntKind.u64.wrap (-25)) 31 = 7 := by decide
  have HR := Lib.hid (wd_rot x 25)
  go_enter Tryd.func118, Tryd.ntmps118
  go_wp2_with fail
  go_ret
  exact ⟨ret_int HR.out, rfl⟩
theorem right25 (x : Wd) (w : World) : Calls Tryd.prog 109 #[.int .u32 x.toNat, .int .i64 25] w fun e w' => e = .returned (.int .u32 (rotr x 25).toNat) ∧ w' = w := by
  have HR := Lib.hid (rot25 x w)
  generalize rotr x 25 = y at *
  go_enter Tryd.func109, Tryd.ntmps109
  go_wp2_with fail
  refine HR.out.mono ?_
  rintro e w1 ⟨rfl, rfl⟩
  go_wp2_with fail
  go_ret
  exact ⟨rfl, rfl⟩
theorem right_any (x : Wd) (n : Int) (w : World) (hn : rotOk n = true) : Calls Tryd.prog 109 #[.int .u32 x.toNat, .int .i64 n] w fun e w' => e = .returned (.int .u32 (rotr x n.toNat).toNat) ∧ w' = w := by
  have : n = 2 ∨ n = 6 ∨ n = 7 ∨ n = 11 ∨ n = 13 ∨ n = 17 ∨ n = 18 ∨ n = 19 ∨ n = 22 ∨ n = 25 := by simpa [rotOk] using hn
  rcases this with rfl | rfl | rfl | rfl | rfl | rfl | rfl | rfl | rfl | rfl
  · exact right2 x w
  · exact right6 x w
  · exact right7 x w
  · exact right11 x w
  · exact right13 x w
  · exact right17 x w
  · exact right18 x w
  · exact right19 x w
  · exact right22 x w
  · exact right25 x w
end Go.Proofs.YtgojagdjlebnnaaDoor
