/- A row of files each of which includes the next one; the plain law. -/
import Derived.Test.YtlabhbeacogfbaaDoorFirstL
import Derived.Test.YtlabhbeacogfbaaDoorLawD
namespace Go.Proofs.YtlabhbeacogfbaaDoor
open Go.RowKit

def dig (i : Nat) : ByteArray := ⟨(Lib.decDigits i).toArray⟩
def digL (i : Nat) : Txt := Lib.decDigits i
theorem dig_toList (i : Nat) : (dig i).toList = digL i := toList_mk _
def inclF : ByteArray := ⟨#[35, 105, 110, 99, 108, 117, 100, 101, 32, 102]⟩
def deepText (M T i : Nat) : ByteArray :=
  if i + 1 < M then ⟨#[112]⟩ ++ dig i ++ ⟨#[10]⟩ ++ inclF ++ dig (i + 1) ++ ⟨#[10]⟩
  else if T < M then ⟨#[112]⟩ ++ dig i ++ ⟨#[10]⟩ ++ inclF ++ dig T ++ ⟨#[10]⟩
  else ⟨#[112]⟩ ++ dig i ++ ⟨#[10]⟩
def deepTextL (M T i : Nat) : Txt :=
  if i + 1 < M then [112] ++ digL i ++ [10] ++ [35, 105, 110, 99, 108, 117, 100, 101, 32, 102] ++ digL (i + 1) ++ [10]
  else if T < M then [112] ++ digL i ++ [10] ++ [35, 105, 110, 99, 108, 117, 100, 101, 32, 102] ++ digL T ++ [10]
  else [112] ++ digL i ++ [10]
theorem deepText_toList (M T i : Nat) : (deepText M T i).toList = deepTextL M T i := by
  have e1 : (⟨#[112]⟩ : ByteArray).toList = [112] := toList_mk _
  have e2 : (⟨#[10]⟩ : ByteArray).toList = [10] := toList_mk _
  have e3 : inclF.toList = [35, 105, 110, 99, 108, 117, 100, 101, 32, 102] := toList_mk _
  unfold deepText deepTextL
  split
  · simp only [toList_append, e1, e2, e3, dig_toList]
  · split
    · simp only [toList_append, e1, e2, e3, dig_toList]
    · simp only [toList_append, e1, e2, dig_toList]
def deepFiles (M T k : Nat) : List (ByteArray × ByteArray) := (List.range k).map fun i => (⟨#[102]⟩ ++ dig i, deepText M T i)
def deepL (M T k : Nat) : List (Txt × Txt) := (List.range k).map fun i => ([102] ++ digL i, deepTextL M T i)
theorem deep_fsL (M T k : Nat) : fsL (deepFiles M T k) = deepL M T k := by
  unfold fsL deepFiles deepL
  rw [List.map_map]
  refine List.map_congr_left fun i _ => ?_
  simp only [Function.comp_def, deepText_toList, toList_append, dig_toList, show (⟨#[102]⟩ : ByteArray).toList = [102] from toList_mk _]
theorem deep_succ (M T k : Nat) : flatF (deepFiles M T (k + 1)) = flatF (deepFiles M T k) ++ [.string (⟨#[102]⟩ ++ dig k), .string (deepText M T k)] := by
  unfold deepFiles
  rw [List.range_succ, List.map_append]
  simp [flatF]
theorem deep_len (M T k : Nat) : (deepFiles M T k).length = k := by simp [deepFiles]
theorem dig_le (i : Nat) (h : i < 11) : (dig i).size ≤ 3 := by
  have : ∀ j, j < 11 → (dig j).size ≤ 3 := by decide +kernel
  exact this i h
theorem deep_sizes (M T k : Nat) (hk : k ≤ 9) (hT : T < 10) : ∀ f ∈ deepFiles M T k, f.1.size ≤ 40 ∧ f.2.size ≤ 600 := by
  intro f hf
  obtain ⟨i, hi, rfl⟩ := List.mem_map.1 hf
  have hi := List.mem_range.1 hi
  have h1 := dig_le i (by omega)
  have h2 := dig_le (i + 1) (by omega)
  have h3 := dig_le T (by omega)
  have e1 : (⟨#[112]⟩ : ByteArray).size = 1 := rfl
  have e2 : (⟨#[10]⟩ : ByteArray).size = 1 := rfl
  have e3 : inclF.size = 10 := rfl
  have e4 : (⟨#[102]⟩ : ByteArray).size = 1 := rfl
  refine ⟨by simp only [ByteArray.size_append]; omega, ?_⟩
  show (deepText M T i).size ≤ 600
  unfold deepText
  split
  · simp only [ByteArray.size_append]; omega
  · split <;> simp only [ByteArray.size_append] <;> omega

def deepCheck (M T : Nat) : Bool := match parseL (deepL M T M) [102, 48] with
  | .error k => (decide (4 < M) && k == 3) || (decide (M ≤ 4) && decide (T < M) && k == 22)
  | .ok ts => decide (M ≤ 4) && decide (M ≤ T) && ts.length == M && (List.range M).all fun i => mayL ([120, 47, 112] ++ digL i) && (firstL ts ([120, 47, 112] ++ digL i)).1
theorem deep_all : ((List.range 8).all fun m => (List.range 10).all fun t => deepCheck (m + 1) t) = true := by kernel_rfl
theorem deep_check (M T : Nat) (h1 : 1 ≤ M) (h2 : M ≤ 8) (h3 : T < 10) : deepCheck M T = true := by
  have h := List.all_eq_true.1 deep_all (M - 1) (List.mem_range.2 (by omega))
  have h := List.all_eq_true.1 h T (List.mem_range.2 h3)
  rwa [show M - 1 + 1 = M from by omega] at h
theorem deep_err {M T k : Nat} (h1 : 1 ≤ M) (h2 : M ≤ 8) (h3 : T < 10) (h : parseL (fsL (deepFiles M T M)) [102, 48] = .error k) : (4 < M ∧ k = 3) ∨ (M ≤ 4 ∧ T < M ∧ k = 22) := by
  have hc := deep_check M T h1 h2 h3
  rw [deep_fsL] at h
  unfold deepCheck at hc
  rw [h] at hc
  simp only [Bool.or_eq_true, Bool.and_eq_true, decide_eq_true_eq, beq_iff_eq] at hc
  rcases hc with hc | hc
  · exact .inl hc
  · exact .inr ⟨hc.1.1, hc.1.2, hc.2⟩
theorem deep_ok {M T : Nat} {ts : List Txt} (h1 : 1 ≤ M) (h2 : M ≤ 8) (h3 : T < 10) (h : parseL (fsL (deepFiles M T M)) [102, 48] = .ok ts) : M ≤ 4 ∧ M ≤ T ∧ ts.length = M ∧ ∀ i, i < M → ∃ b, matchesL ts (⟨#[120, 47, 112]⟩ ++ dig i) = (true, b) := by
  have hc := deep_check M T h1 h2 h3
  rw [deep_fsL] at h
  unfold deepCheck at hc
  rw [h] at hc
  simp only [Bool.and_eq_true, decide_eq_true_eq, beq_iff_eq, List.all_eq_true] at hc
  refine ⟨hc.1.1.1, hc.1.1.2, hc.1.2, fun i hi => ?_⟩
  obtain ⟨q1, q2⟩ := hc.2 i (List.mem_range.2 hi)
  rw [matchesL_list, toList_append, dig_toList, show (⟨#[120, 47, 112]⟩ : ByteArray).toList = [120, 47, 112] from toList_mk _, if_pos q1]
  exact ⟨_, Prod.ext q2 rfl⟩
end Go.Proofs.YtlabhbeacogfbaaDoor
