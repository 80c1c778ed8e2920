/- Contracts of caravan/caravanref01: Primes, Square, Cube; their tables. -/
import Derived.Test.YtgojagdjlebnnaaDoorRShaA
import Derived.Test.YtgojagdjlebnnaaDoorRefA
namespace Go.Proofs.YtgojagdjlebnnaaDoor
open Go.RowKit

/-- The numbers from 2 on that are prime, among so many. -/
def primesTo (n : Nat) : List Nat := ((List.range n).map (· + 2)).filter primeN
theorem primesTo_step (n : Nat) : primesTo (n + 1) = primesTo n ++ (if primeN (n + 2) then [n + 2] else []) := by
  unfold primesTo
  rw [List.range_succ, List.map_append, List.filter_append]
  simp only [List.map_cons, List.map_nil]
  split <;> simp_all
theorem primes_few : ∀ n, n < 310 → (primesTo n).length < 64 := by decide +kernel
theorem primes_all : (primesTo 310).length = 64 := by decide +kernel
def primes64 : List Nat := primesTo 310
theorem el_u64 : Elem Tryd.prog 77 81 (.int .u64 0) 8 := ⟨by kernel_rfl, by kernel_rfl, rfl, by decide⟩
theorem owns_slice {w : World} {base n : Nat} {e : TypeId} {v : Value} {xs : List Value} (h : w.ownsRow base e 1 v n xs) : ∃ a cap, v = .slice a n cap := by
  rcases h.2 with ⟨h1, h2⟩ | ⟨g, cap, cur, hv, _⟩
  · exact ⟨none, 0, by rw [h1, h2]⟩
  · exact ⟨_, cap, hv⟩
def uv (n : Nat) : Value := .int .u64 n

set_option maxHeartbeats 1000000 in
set_option maxRecDepth 100000 in
theorem rprimes_any (w : World) :
    Calls Tryd.prog 74 #[.int .i64 64] w fun e w' => ∃ v, e = .returned v ∧ CellsAt w' v (primes64.map uv) ∧ Ext w w' := by
  have HALL := Lib.hid primes_all
  have HFEW := Lib.hid primes_few
  have HP := fun n h w => Lib.hid (rprime_any n h w)
  go_enter Tryd.func74, Tryd.ntmps74
  go_wp2_with fail
  go_loopw [3, 4] (fun v n wr => Hid (∃ k : Nat, k ≤ 310 ∧ n = .int .u64 (k + 2 : Nat) ∧ wr.ownsRow w.heap.size 81 1 v (primesTo k).length ((primesTo k).map uv) ∧ Ext w wr)) (fun _ n _ => 400 - (intOf n).toNat)
  case atStart => exact ⟨0, by omega, rfl, World.ownsRow_nil _ _ _ _, Ext.refl _⟩
  case round =>
    obtain ⟨k, hk, rfl, ho, hx⟩ := hrel.out
    clear hrel
    have HX := Lib.hid hx
    have HO := Lib.hid ho
    obtain ⟨a, cap, rfl⟩ := owns_slice ho
    have hge := own_block_ge ho
    have hex := HX.out.size
    by_cases hlt : k < 310
    · have hln := HFEW.out k hlt
      have HS := Lib.hid (primesTo_step k)
      have HPk := Lib.hid (HP (k + 2) (by omega) wr).out
      clear ho hx
      cases hp : primeN (k + 2)
      · rw [hp, if_neg (by decide), List.append_nil] at HS
        rw [hp] at HPk
        clear hp
        go_wp2_with fail
        refine HPk.out.mono ?_
        rintro e w1 ⟨rfl, rfl⟩
        go_wp2_with fail
        go_roundw
        case rel => exact ⟨k + 1, by omega, by go_num, by rw [HS.out]; exact HO.out, HX.out⟩
        case measure => simp [intOf]; omega
      · rw [hp, if_pos rfl] at HS
        rw [hp] at HPk
        clear hp
        go_wp2_with fail
        refine HPk.out.mono ?_
        rintro e w1 ⟨rfl, rfl⟩
        go_wp2_with (at_builtin; refine append_one el_u64 w.heap.size _ _ _ (HO.out.alloc _) w1.heap.size (uv (k + 2)) (.tmp 13) (.tmp 15) rfl rfl rfl rfl ?c1 rfl (by omega) ?c2 ?_)
        case c1 => rw [cell_alloc_new rfl]; rfl
        case c2 => simp; omega
        intro v' w2 hown1 hgr1 hv1
        go_wp2_with fail
        go_roundw
        case rel => exact ⟨k + 1, by omega, by go_num, by rw [HS.out]; simpa using hown1, (HX.out.alloc _).grown hgr1 (by simp; omega) hge⟩
        case measure => simp [intOf]; omega
    · have hk : k = 310 := by omega
      subst hk
      have hln := HALL.out
      have HC := Lib.hid (CellsAt.of_owns (xs := (primesTo 310).map uv) (by simpa using ho))
      rw [hln] at *
      clear ho hx
      go_wp2_with fail
      go_ret
      exact ⟨_, rfl, HC.out, HX.out⟩
end Go.Proofs.YtgojagdjlebnnaaDoor
