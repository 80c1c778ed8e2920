/- The chapter's examples, evaluated; printed by gen_known.py. -/
import Derived.Test.YtlabhbeacogfbaaDoorFirstL
namespace Go.Proofs.YtlabhbeacogfbaaDoor
open Go.RowKit

def rep (k : Nat) (t : Txt) : Txt := (List.replicate k t).flatten
theorem rep_succ (k : Nat) (t : Txt) : rep (k + 1) t = rep k t ++ t := by
  unfold rep; rw [List.replicate_succ', List.flatten_append]; simp
theorem rep_len (k : Nat) (t : Txt) : (rep k t).length = k * t.length := by
  induction k with
  | zero => simp [rep]
  | succ k ih => rw [rep_succ, List.length_append, ih, Nat.succ_mul]
theorem texts_nil (w : World) : TextsAt w (.slice none 0 0) [] := ⟨none, 0, rfl, Nat.le_refl _, by decide, fun j f hj => by simp at hj⟩
theorem known1 : parseL (fsL ([(⟨#[105]⟩, ⟨#[47, 47, 32, 97, 108, 108, 10, 33, 107, 101, 101, 112, 46, 116, 109, 112, 10, 32, 32, 42, 46, 116, 109, 112, 9, 10, 10]⟩), (⟨#[105]⟩, ⟨#[91]⟩)] : List (ByteArray × ByteArray))) (⟨#[105]⟩ : ByteArray).toList = .ok [[33, 107, 101, 101, 112, 46, 116, 109, 112], [42, 46, 116, 109, 112]] := by
  simp only [fsL, List.map_cons, List.map_nil, Lib.toList_data]
  kernel_rfl
theorem known2 : parseL (fsL ([(⟨#[105]⟩, ⟨#[35, 105, 110, 99, 108, 117, 100, 101, 32, 106, 10, 33, 98]⟩), (⟨#[106]⟩, ⟨#[97, 10, 98]⟩)] : List (ByteArray × ByteArray))) (⟨#[105]⟩ : ByteArray).toList = .ok [[97], [98], [33, 98]] := by
  simp only [fsL, List.map_cons, List.map_nil, Lib.toList_data]
  kernel_rfl
theorem known3 : parseL (fsL ([(⟨#[105]⟩, ⟨#[35, 105, 110, 99, 108, 117, 100, 101, 32, 105]⟩)] : List (ByteArray × ByteArray))) (⟨#[105]⟩ : ByteArray).toList = .error 22 := by
  simp only [fsL, List.map_cons, List.map_nil, Lib.toList_data]
  kernel_rfl
theorem known4 : parseL (fsL ([(⟨#[105]⟩, ⟨#[35, 105, 110, 99, 108, 117, 100, 101, 32, 107]⟩)] : List (ByteArray × ByteArray))) (⟨#[105]⟩ : ByteArray).toList = .error 5 := by
  simp only [fsL, List.map_cons, List.map_nil, Lib.toList_data]
  kernel_rfl
theorem known5 : parseL (fsL ([(⟨#[105]⟩, ⟨#[91]⟩)] : List (ByteArray × ByteArray))) (⟨#[105]⟩ : ByteArray).toList = .error 4 := by
  simp only [fsL, List.map_cons, List.map_nil, Lib.toList_data]
  kernel_rfl
theorem known6 : parseL (fsL ([] : List (ByteArray × ByteArray))) (⟨#[105]⟩ : ByteArray).toList = .error 5 := by
  simp only [fsL, List.map_nil, Lib.toList_data]
  kernel_rfl
theorem known9 : parseL (fsL ([(⟨#[105]⟩, ⟨#[35, 105, 110, 99, 108, 117, 100, 101, 32, 106, 10, 35, 105, 110, 99, 108, 117, 100, 101, 32, 106]⟩), (⟨#[106]⟩, ⟨#[97]⟩)] : List (ByteArray × ByteArray))) (⟨#[105]⟩ : ByteArray).toList = .ok [[97], [97]] := by
  simp only [fsL, List.map_cons, List.map_nil, Lib.toList_data]
  kernel_rfl
theorem known7 : parseL (fsL ([(⟨#[105]⟩, bsL (rep 64 [97, 10]))] : List (ByteArray × ByteArray))) (⟨#[105]⟩ : ByteArray).toList = .ok (List.replicate 64 [97]) := by
  simp only [fsL, List.map_cons, List.map_nil, Lib.toList_data]
  kernel_rfl
theorem known8 : parseL (fsL ([(⟨#[105]⟩, bsL (rep 64 [97, 10] ++ [97]))] : List (ByteArray × ByteArray))) (⟨#[105]⟩ : ByteArray).toList = .error 3 := by
  simp only [fsL, List.map_cons, List.map_nil, Lib.toList_data]
  kernel_rfl
theorem known10 : parseL (fsL ([(⟨#[105]⟩, bsL (rep 64 [35, 105, 110, 99, 108, 117, 100, 101, 32, 106, 10])), (⟨#[106]⟩, ⟨#[47, 47, 32, 110, 111, 110, 101]⟩)] : List (ByteArray × ByteArray))) (⟨#[105]⟩ : ByteArray).toList = .ok [] := by
  simp only [fsL, List.map_cons, List.map_nil, Lib.toList_data]
  kernel_rfl
theorem known11 : parseL (fsL ([(⟨#[105]⟩, bsL (rep 64 [35, 105, 110, 99, 108, 117, 100, 101, 32, 106, 10] ++ [35, 105, 110, 99, 108, 117, 100, 101, 32, 106])), (⟨#[106]⟩, ⟨#[47, 47, 32, 110, 111, 110, 101]⟩)] : List (ByteArray × ByteArray))) (⟨#[105]⟩ : ByteArray).toList = .error 3 := by
  simp only [fsL, List.map_cons, List.map_nil, Lib.toList_data]
  kernel_rfl
theorem knownm0 : matchesL [[33, 107, 101, 101, 112, 46, 116, 109, 112], [42, 46, 116, 109, 112]] ⟨#[120, 46, 116, 109, 112]⟩ = (true, false) := by
  rw [matchesL_list, Lib.toList_data]
  kernel_rfl
theorem knownm1 : matchesL [[33, 107, 101, 101, 112, 46, 116, 109, 112], [42, 46, 116, 109, 112]] ⟨#[107, 101, 101, 112, 46, 116, 109, 112]⟩ = (false, false) := by
  rw [matchesL_list, Lib.toList_data]
  kernel_rfl
theorem knownm2 : matchesL [[33, 107, 101, 101, 112, 46, 116, 109, 112], [42, 46, 116, 109, 112]] ⟨#[100, 47, 107, 101, 101, 112, 46, 116, 109, 112]⟩ = (false, false) := by
  rw [matchesL_list, Lib.toList_data]
  kernel_rfl
theorem knownm3 : matchesL [[33, 107, 101, 101, 112, 46, 116, 109, 112], [42, 46, 116, 109, 112]] ⟨#[120]⟩ = (false, false) := by
  rw [matchesL_list, Lib.toList_data]
  kernel_rfl
theorem knownm4 : matchesL [[33, 107, 101, 101, 112, 46, 116, 109, 112], [42, 46, 116, 109, 112]] ⟨#[120, 46, 116, 109, 112, 47, 121]⟩ = (true, false) := by
  rw [matchesL_list, Lib.toList_data]
  kernel_rfl
theorem knownm5 : matchesL [[33, 107, 101, 101, 112, 46, 116, 109, 112], [42, 46, 116, 109, 112]] ⟨#[47, 47, 120, 46, 116, 109, 112]⟩ = (false, false) := by
  rw [matchesL_list, Lib.toList_data]
  kernel_rfl
theorem knownb : matchesL [[97], [98], [33, 98]] ⟨#[98]⟩ = (true, false) := by
  rw [matchesL_list, Lib.toList_data]
  kernel_rfl
theorem knownj : bsL (joinL [[97], [98], [33, 98]]) = ⟨#[97, 10, 98, 10, 33, 98, 10]⟩ := by kernel_rfl
theorem big7 : ∃ (s7 s8 : ByteArray) (t7 : List Txt), bsL (rep 64 [97, 10]) = s7 ∧ s7 ++ ⟨#[97]⟩ = s8 ∧ s7.size ≤ 1000 ∧ s8.size ≤ 1000 ∧ t7.length = 64 ∧ parseL (fsL [(⟨#[105]⟩, s7)]) (⟨#[105]⟩ : ByteArray).toList = .ok t7 ∧ parseL (fsL [(⟨#[105]⟩, s8)]) (⟨#[105]⟩ : ByteArray).toList = .error 3 := by
  refine ⟨_, _, _, rfl, rfl, ?_, ?_, ?_, known7, ?_⟩
  · rw [← len_toList, bsL_toList, rep_len]; decide
  · rw [ByteArray.size_append, ← len_toList, bsL_toList, rep_len]; decide
  · rw [List.length_replicate]
  · have e : bsL (rep 64 [97, 10]) ++ ⟨#[97]⟩ = bsL (rep 64 [97, 10] ++ [97]) := by kernel_rfl
    rw [e]; exact known8
theorem big10 : ∃ (s10 s11 : ByteArray), bsL (rep 64 [35, 105, 110, 99, 108, 117, 100, 101, 32, 106, 10]) = s10 ∧ s10 ++ ⟨#[35, 105, 110, 99, 108, 117, 100, 101, 32, 106]⟩ = s11 ∧ s10.size ≤ 1000 ∧ s11.size ≤ 1000 ∧ parseL (fsL [(⟨#[105]⟩, s10), (⟨#[106]⟩, ⟨#[47, 47, 32, 110, 111, 110, 101]⟩)]) (⟨#[105]⟩ : ByteArray).toList = .ok [] ∧ parseL (fsL [(⟨#[105]⟩, s11), (⟨#[106]⟩, ⟨#[47, 47, 32, 110, 111, 110, 101]⟩)]) (⟨#[105]⟩ : ByteArray).toList = .error 3 := by
  refine ⟨_, _, rfl, rfl, ?_, ?_, known10, ?_⟩
  · rw [← len_toList, bsL_toList, rep_len]; decide
  · rw [ByteArray.size_append, ← len_toList, bsL_toList, rep_len]; decide
  · have e : bsL (rep 64 [35, 105, 110, 99, 108, 117, 100, 101, 32, 106, 10]) ++ ⟨#[35, 105, 110, 99, 108, 117, 100, 101, 32, 106]⟩ = bsL (rep 64 [35, 105, 110, 99, 108, 117, 100, 101, 32, 106, 10] ++ [35, 105, 110, 99, 108, 117, 100, 101, 32, 106]) := by kernel_rfl
    rw [e]; exact known11
end Go.Proofs.YtlabhbeacogfbaaDoor
