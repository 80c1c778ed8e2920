/- Contract of caravan/glob's class: a class taken off a text behind its bracket. -/
import Derived.Test.YtlabhbeacogfbaaDoorOwnK
import Derived.Test.YtlabhbeacogfbaaDoorGlobR
namespace Go.Proofs.YtlabhbeacogfbaaDoor
open Go.RowKit

theorem cell_of_block {w : World} {b k : Nat} {cs : Array Value} {t : TypeId} (h : w.heap[b]? = some (.cells cs t (0, 0))) : w.cell? ⟨b, k, none⟩ = cs[k]? := by
  unfold World.cell?
  simp only [h]
  simp
theorem frozen_of_block {w : World} {b k : Nat} {cs : Array Value} {t : TypeId} (h : w.heap[b]? = some (.cells cs t (0, 0))) : w.frozen? ⟨b, k, none⟩ = false := by
  unfold World.frozen?
  simp only [h]
  simp
theorem lt_of_block {w : World} {b : Nat} {o : Obj} (h : w.heap[b]? = some o) : b < w.heap.size := (Array.getElem?_eq_some_iff.1 h).1

theorem rangesL_end {m : Nat} {rs : List (UInt8 × UInt8)} {s : ByteArray} : rangesL m rs (s.toList.drop s.size) = none := by
  rw [List.drop_of_length_le (by rw [len_toList]; exact Nat.le_refl _)]
  cases m <;> rfl
theorem rangesL_close {m : Nat} {rs : List (UInt8 × UInt8)} {s : ByteArray} {k : Nat} (hk : k < s.size) (h : s[k] = 93) : rangesL (m + 1) rs (s.toList.drop k) = if rs.isEmpty then none else some (rs, s.toList.drop (k + 1)) := by
  rw [drop_cons s k hk, h]; rfl
theorem rangesL_none {m : Nat} {rs : List (UInt8 × UInt8)} {s : ByteArray} {k : Nat} (hk : k < s.size) (h : s[k] ≠ 93) (hr : rangeL (s.toList.drop k) = none) : rangesL (m + 1) rs (s.toList.drop k) = none := by
  rw [drop_cons s k hk] at hr ⊢
  simp only [rangesL, beq_iff_eq, h, if_false, hr]
theorem rangesL_some {m : Nat} {rs : List (UInt8 × UInt8)} {s : ByteArray} {k : Nat} {r : UInt8 × UInt8} {u : List UInt8} (hk : k < s.size) (h : s[k] ≠ 93) (hr : rangeL (s.toList.drop k) = some (r, u)) : rangesL (m + 1) rs (s.toList.drop k) = rangesL m (rs ++ [r]) u := by
  rw [drop_cons s k hk] at hr ⊢
  simp only [rangesL, beq_iff_eq, h, if_false, hr]

/-- Memory within the loop of 'class'. -/
structure ClsInv (w : World) (bp : Nat) (neg : Bool) (wr : World) (v : Value) (rs : List (UInt8 × UInt8)) : Prop where
  ext : Ext w wr
  size : w.heap.size + 1 + 1 + 1 + 1 ≤ wr.heap.size
  p : wr.heap[w.heap.size]? = some (.cells #[.pointer (some ⟨bp, 0, none⟩)] 57 (0, 0))
  r : wr.heap[w.heap.size + 1]? = some (.cells #[.nilFunc, .bool false] 86 (0, 0))
  t : wr.heap[w.heap.size + 1 + 1]? = some (.cells #[.bool neg] 4 (0, 0))
  c : wr.heap[w.heap.size + 1 + 1 + 1]? = some (.cells #[v] 94 (0, 0))
  o : wr.ownsRow (w.heap.size + 1 + 1 + 1 + 1) 126 2 v rs.length (flatR rs)

theorem own_block_ge_k {w : World} {base k : Nat} {e : TypeId} {v : Value} {n : Nat} {xs : List Value} (h : w.ownsRow base e k v n xs) : ∀ j, v.ownBlock = some j → base ≤ j := by
  intro j hk
  rcases h.2 with ⟨h1, _⟩ | ⟨g, cap, cur, hv, hb, _⟩
  · subst h1; simp [Value.ownBlock] at hk
  · subst hv; simp [Value.ownBlock] at hk; omega
theorem owns_setCell {w : World} {base k b o : Nat} {e : TypeId} {v u : Value} {n : Nat} {xs : List Value} (h : w.ownsRow base e k v n xs) (hb : b < base) : (w.setCell ⟨b, o, none⟩ u).ownsRow base e k v n xs := by
  refine ⟨h.1, ?_⟩
  rcases h.2 with h1 | ⟨g, cap, cur, hv, hg, hh, hr⟩
  · exact .inl h1
  · exact .inr ⟨g, cap, cur, hv, hg, (heap_setCell_other _ _ _ _ (by simp; omega)).trans hh, hr⟩

theorem news2 (w : World) (a b : Value) (t : TypeId) : ∀ (j : Nat) u, [a, b][j]? = some u → (w.alloc (.cells #[a, b] t)).cell? ⟨w.heap.size, j, none⟩ = some u := by
  intro j u hj
  rw [cell_alloc_new rfl, ← hj]
  simp
theorem ones2 (a b : UInt8) : ∀ u ∈ [Value.int .u8 a.toNat, Value.int .u8 b.toNat], u.oneCell' = true := by
  intro u hu
  simp at hu
  rcases hu with rfl | rfl <;> rfl

theorem ClsInv.push {w wr w1 : World} {bp : Nat} {neg : Bool} {v v' : Value} {rs : List (UInt8 × UInt8)} {r : UInt8 × UInt8} {o : Obj} (I : ClsInv w bp neg wr v rs)
    (hown : w1.ownsRow (w.heap.size + 1 + 1 + 1 + 1) 126 2 v' (rs.length + 1) (flatR rs ++ [.int .u8 r.1.toNat, .int .u8 r.2.toNat])) (hg : (wr.alloc o).grownBy w1 v.ownBlock) :
    ClsInv w bp neg (w1.setCell ⟨w.heap.size + 1 + 1 + 1, 0, none⟩ v') v' (rs ++ [r]) := by
  have hge := own_block_ge_k I.o
  have hsz := I.size
  have hbl : ∀ i, i < w.heap.size + 1 + 1 + 1 + 1 → w1.heap[i]? = wr.heap[i]? := fun i hi => by
    rw [hg.block i (by simp; omega) (fun e => by have := hge i e.symm; omega), ((Ext.refl wr).alloc o).block (by omega)]
  have hs1 : wr.heap.size + 1 ≤ w1.heap.size := by have := hg.size; simpa using this
  refine ⟨?_, ?_, ?_, ?_, ?_, ?_, ?_⟩
  · exact ((I.ext.alloc o).grown hg (by have := I.ext.size; simp; omega) (fun k hk => by have := hge k hk; omega)).setCell (by simp; omega) _
  · simp; omega
  · rw [heap_setCell_other _ _ _ _ (by simp; omega), hbl _ (by omega)]; exact I.p
  · rw [heap_setCell_other _ _ _ _ (by simp), hbl _ (by omega)]; exact I.r
  · rw [heap_setCell_other _ _ _ _ (by simp), hbl _ (by omega)]; exact I.t
  · exact heap_setCell_same _ _ _ _ _ _ ((hbl _ (by omega)).trans I.c)
  · rw [List.length_append, flatR_snoc]
    exact owns_setCell hown (by omega)

theorem ClsInv.start (w : World) (bp : Nat) (neg : Bool) : ClsInv w bp neg ((((w.alloc (.cells #[.pointer (some ⟨bp, 0, none⟩)] 57)).alloc (.cells #[.nilFunc, .bool false] 86)).alloc (.cells #[.bool neg] 4)).alloc (.cells #[.slice none 0 0] 94)) (.slice none 0 0) [] := by
  have hn : ∀ (w : World) o b, b = w.heap.size → (w.alloc o).heap[b]? = some o := fun w o b h => h ▸ heap_alloc_new w o
  have ho : ∀ (w : World) o b, b < w.heap.size → (w.alloc o).heap[b]? = w.heap[b]? := fun w o b h => ((Ext.refl w).alloc o).block h
  refine ⟨((((Ext.refl w).alloc _).alloc _).alloc _).alloc _, by simp, ?_, ?_, ?_, ?_, World.ownsRow_nil _ _ _ _⟩
  · rw [ho _ _ _ (by simp; omega), ho _ _ _ (by simp; omega), ho _ _ _ (by simp), hn _ _ _ rfl]
  · rw [ho _ _ _ (by simp), ho _ _ _ (by simp), hn _ _ _ (by simp)]
  · rw [ho _ _ _ (by simp), hn _ _ _ (by simp)]
  · rw [hn _ _ _ (by simp)]

/-- What 'class' answers. -/
def ClsPost (w : World) (bp : Nat) (s : ByteArray) (e : Ending) (w' : World) : Prop := (∃ u b n, e = .returned (.tuple #[.agg #[u, .bool b], .int .i64 n]) ∧ FnV u ∧
      (match classL s.toList with | none => n = 0 | some (x, r) => n = (s.size - r.length : Nat) ∧ b = x.many ∧ GFn w' bp (fun b => w.heap.size ≤ b) x u)) ∧ Ext w w'

def clsOf (neg : Bool) (R : Option (List (UInt8 × UInt8) × List UInt8)) : Option (GE × List UInt8) := R.map fun x => (.set neg x.1, x.2)
theorem classL_of {s : ByteArray} {neg : Bool} {k : Nat} (hn : negL s.toList = (neg, s.toList.drop k)) : classL s.toList = clsOf neg (rangesL (s.size + 1) [] (s.toList.drop k)) := by
  unfold classL clsOf
  rw [hn, len_toList]
  simp only
  cases rangesL (s.size + 1) [] (s.toList.drop k) <;> rfl
theorem negL_of {s : ByteArray} {neg : Bool} (h : Lib.hasPrefix s.data.toList [33] = neg) : negL s.toList = (neg, s.toList.drop (if neg then 1 else 0)) := by
  rw [← Lib.toList_data] at h
  cases h2 : s.toList with
  | nil => rw [h2] at h; simp [Lib.hasPrefix] at h; subst h; rfl
  | cons c t =>
    rw [h2] at h
    by_cases hc : c = 33
    · subst hc; simp [Lib.hasPrefix] at h; subst h; rfl
    · have : neg = false := by rw [← h, Lib.hasPrefix]; show ((33 : UInt8) == c && _) = false; rw [beq_eq_false_iff_ne.2 (Ne.symm hc)]; rfl
      subst this
      unfold negL
      split
      · rename_i h3; cases h3; exact absurd rfl hc
      · rfl
theorem ClsPost.none {w w' : World} {bp : Nat} {s : ByteArray} (h : classL s.toList = none) (x : Ext w w') : ClsPost w bp s (.returned (.tuple #[.agg #[.nilFunc, .bool false], .int .i64 0])) w' :=
  ⟨⟨_, _, _, rfl, .inl rfl, by rw [h]⟩, x⟩

theorem ClsInv.done {w wr : World} {bp : Nat} {neg : Bool} {v : Value} {rs : List (UInt8 × UInt8)} (I : ClsInv w bp neg wr v rs) (f : Value)
    (hf : f = .func (.func 93) #[] #[.pointer (some ⟨w.heap.size + 1 + 1, 0, none⟩), .pointer (some ⟨wr.heap.size, 0, none⟩), .pointer (some ⟨w.heap.size, 0, none⟩)]) (o : Obj)
    (ho : o = .cells #[.func (.func 92) #[] #[.pointer (some ⟨w.heap.size + 1 + 1 + 1, 0, none⟩)]] 84 (0, 0)) :
    GFn (((wr.setCell ⟨w.heap.size + 1, 0, none⟩ f).setCell ⟨w.heap.size + 1, 1, none⟩ (.bool false)).alloc o) bp (fun b => w.heap.size ≤ b) (.set neg rs) f ∧
    Ext w (((wr.setCell ⟨w.heap.size + 1, 0, none⟩ f).setCell ⟨w.heap.size + 1, 1, none⟩ (.bool false)).alloc o) := by
  have hsz := I.size
  have hbl : ∀ i x, i ≠ w.heap.size + 1 → wr.heap[i]? = some x → (((wr.setCell ⟨w.heap.size + 1, 0, none⟩ f).setCell ⟨w.heap.size + 1, 1, none⟩ (.bool false)).alloc o).heap[i]? = some x := fun i x hi hx => by
    rw [((Ext.refl _).alloc o).block (by simpa using lt_of_block hx), heap_setCell_other _ _ _ _ (by simpa using hi), heap_setCell_other _ _ _ _ (by simpa using hi)]; exact hx
  have hk : Keeps (fun b => w.heap.size + 1 + 1 ≤ b) wr (((wr.setCell ⟨w.heap.size + 1, 0, none⟩ f).setCell ⟨w.heap.size + 1, 1, none⟩ (.bool false)).alloc o) := by
    refine ⟨by simp, fun b o' hb' hl => World.cell?_of_block ?_⟩
    simp only
    rw [((Ext.refl _).alloc o).block (by simpa using hl), heap_setCell_other _ _ _ _ (by simp; omega), heap_setCell_other _ _ _ _ (by simp; omega)]
  refine ⟨⟨_, _, _, _, v, hf, (by omega : w.heap.size ≤ w.heap.size + 1 + 1), (by omega : w.heap.size ≤ wr.heap.size), Nat.le_refl _, (by omega : w.heap.size ≤ w.heap.size + 1 + 1 + 1), ?_, ?_, ?_, ?_, ?_⟩, ?_⟩
  · exact cell_of_block (hbl _ _ (by omega) I.t)
  · refine (cell_of_block (cs := #[.func (.func 92) #[] #[.pointer (some ⟨w.heap.size + 1 + 1 + 1, 0, none⟩)]]) (t := 84) ?_).trans rfl
    rw [ho]
    have := heap_alloc_new ((wr.setCell ⟨w.heap.size + 1, 0, none⟩ f).setCell ⟨w.heap.size + 1, 1, none⟩ (.bool false)) (.cells #[.func (.func 92) #[] #[.pointer (some ⟨w.heap.size + 1 + 1 + 1, 0, none⟩)]] 84 (0, 0))
    rwa [show ((wr.setCell ⟨w.heap.size + 1, 0, none⟩ f).setCell ⟨w.heap.size + 1, 1, none⟩ (.bool false)).heap.size = wr.heap.size from by simp] at this
  · exact cell_of_block (hbl _ _ (by omega) I.p)
  · exact cell_of_block (hbl _ _ (by omega) I.c)
  · have R2 := (RangesFrom.of_owns (Far := fun b => w.heap.size + 1 + 1 ≤ b) I.o (fun b hb => by omega)).keeps hk
    exact ⟨R2.at_, fun g n cap hv => ⟨by have := (R2.far g n cap hv).1; omega, (R2.far g n cap hv).2⟩⟩
  · exact ((I.ext.setCell (by simp) _).setCell (by simp) _).alloc o

set_option maxHeartbeats 4000000 in
set_option maxRecDepth 100000 in
theorem class_any (bp : Nat) (s : ByteArray) (w : World) (hs : s.size ≤ 1024) :
    Calls Tryd.prog 72 #[.pointer (some ⟨bp, 0, none⟩), .string s] w (ClsPost w bp s) := by
  have HP := fun w => Lib.hid (Tryd.strings_HasPrefix s ⟨#[33]⟩ w)
  have HO := fun k w => Lib.hid (one_any (s.extract k s.size) w (by unfold maxLen; simp; omega))
  have HR := fun k => Lib.hid (range_cases s k)
  go_enter Tryd.func72, Tryd.ntmps72
  go_wp2_with fail
  refine ((HP _).out).mono ?_
  rintro e w1 ⟨rfl, hw1⟩
  obtain rfl := hw1.symm
  generalize hneg : Lib.hasPrefix s.data.toList [33] = neg
  have HN := Lib.hid hneg
  clear hneg
  cases neg
  · obtain ⟨R, hR0⟩ : ∃ R, R = rangesL (s.size + 1) [] (s.toList.drop 0) := ⟨_, rfl⟩
    have HC := Lib.hid (show classL s.toList = clsOf false R from by rw [hR0]; exact classL_of (negL_of HN.out))
    have HR0 := Lib.hid hR0
    clear hR0
    go_wp2_with fail
    go_loopw [6] (fun i wr => Hid (∃ k m rs v, i = .int .i64 (k : Nat) ∧ k ≤ s.size ∧ s.size - k < m ∧ rs.length ≤ k ∧ rangesL m rs (s.toList.drop k) = R ∧ ClsInv w bp false wr v rs)) (fun i _ => s.size - (intOf i).toNat)
    case atStart => exact ⟨0, s.size + 1, [], _, rfl, by omega, by omega, Nat.zero_le _, HR0.out.symm, ClsInv.start w bp false⟩
    case round =>
      obtain ⟨k, m, rs, v, rfl, hk, hm, hrl, hR, I⟩ := hrel.out
      obtain ⟨va, vc, rfl, hvc, hvc2, _⟩ := RangesAt.of_owns I.o
      unfold maxLen at hvc2
      obtain ⟨m, rfl⟩ : ∃ m', m = m' + 1 := ⟨m - 1, by omega⟩
      have HRR := Lib.hid hR
      clear hR hrel
      have hc : wr.cell? ⟨w.heap.size + 1 + 1 + 1, 0, none⟩ = some (.slice va rs.length vc) := cell_of_block I.c
      have hf : wr.frozen? ⟨w.heap.size + 1 + 1 + 1, 0, none⟩ = false := frozen_of_block I.c
      have r0 : wr.cell? ⟨w.heap.size + 1, 0, none⟩ = some .nilFunc := cell_of_block I.r
      have r1 : wr.cell? ⟨w.heap.size + 1, 1, none⟩ = some (.bool false) := cell_of_block I.r
      have rf0 : wr.frozen? ⟨w.heap.size + 1, 0, none⟩ = false := frozen_of_block I.r
      have rf1 : wr.frozen? ⟨w.heap.size + 1, 1, none⟩ = false := frozen_of_block I.r
      have rlt : w.heap.size + 1 < wr.heap.size := by have := I.size; omega
      have HI := Lib.hid I
      clear I
      by_cases hlt : k < s.size
      · by_cases h93 : s[k] = 93
        · have n93 : ((s[k].toNat : Int) != 93) = false := by rw [h93]; rfl
          have nk : ((k : Int) == s.size) = false := beq_eq_false_iff_ne.2 (by omega)
          cases rs with
          | nil =>
            have HF := Lib.hid (HRR.out.symm.trans (rangesL_close hlt h93))
            clear HR
            go_wp2_with fail
            refine bodyPost_ret (results_row1 rfl _ _ (w.heap.size + 1) 86 _ (0, 0) _ rfl (by exact heap_setCell_same _ _ _ _ _ _ (heap_setCell_same _ _ _ _ _ _ HI.out.r)) Tryd.underlying86 rfl (by kernel_rfl)) rfl ?_
            exact ClsPost.none (by rw [HC.out, HF.out]; rfl) ((HI.out.ext.setCell (by simp) _).setCell (by simp) _)
          | cons q rs' =>
            have HF := Lib.hid (HRR.out.symm.trans (rangesL_close hlt h93))
            clear HR
            have nl : (((q :: rs').length : Int) == 0) = false := beq_eq_false_iff_ne.2 (by simp; omega)
            generalize hqr : q :: rs' = rs at *
            have HQ := Lib.hid hqr
            clear hqr
            go_wp2_with fail
            refine bodyPost_ret (results_row1 rfl _ _ (w.heap.size + 1) 86 _ (0, 0) _ rfl (by exact (((Ext.refl _).alloc _).block (by simpa using rlt)).trans (heap_setCell_same _ _ _ _ _ _ (heap_setCell_same _ _ _ _ _ _ HI.out.r))) Tryd.underlying86 rfl (by kernel_rfl)) rfl ?_
            have HD := ClsInv.done HI.out _ rfl _ rfl
            refine ⟨⟨_, _, _, rfl, .inr ⟨_, _, rfl⟩, ?_⟩, HD.2⟩
            rw [HC.out, HF.out, ← HQ.out]
            refine ⟨?_, rfl, by rw [HQ.out]; exact HD.1⟩
            rw [List.length_drop, len_toList]
            go_num
        · have n93 : ((s[k].toNat : Int) != 93) = true := by rw [bne, beq_eq_false_iff_ne.2 (fun e => h93 (UInt8.toNat_inj.1 (by simp; omega)))]; rfl
          go_wp2_with fail
          refine ((HO k _).out).mono ?_
          rintro e w1 ⟨rfl, hw1⟩
          obtain rfl := hw1.symm
          rcases (HR k).out with ⟨q1, q2⟩ | ⟨f, n, q1, q2, q3, q4⟩
          · rw [q1]
            have HF := Lib.hid (HRR.out.symm.trans (rangesL_none hlt h93 q2))
            clear HR q2
            go_wp2_with fail
            refine bodyPost_ret (results_row1 rfl _ _ (w.heap.size + 1) 86 _ (0, 0) _ rfl (by exact heap_setCell_same _ _ _ _ _ _ (heap_setCell_same _ _ _ _ _ _ HI.out.r)) Tryd.underlying86 rfl (by kernel_rfl)) rfl ?_
            exact ClsPost.none (by rw [HC.out, HF.out]; rfl) ((HI.out.ext.setCell (by simp) _).setCell (by simp) _)
          · rw [q1]
            obtain ⟨a, ha⟩ : ∃ a, a = k + n := ⟨_, rfl⟩
            have hka : (k : Int) + (n : Int) = (a : Int) := by omega
            have hak : k < a := by omega
            rw [← ha] at q3 q4
            have HA := Lib.hid ha
            clear ha
            simp only
            rcases q4 with ⟨nd, q4⟩ | ⟨nd, q4⟩
            · have HF := Lib.hid (HRR.out.symm.trans (rangesL_some hlt h93 q4))
              clear HR q4
              have key : s.size ≤ a + 1 ∨ (∃ h : a + 1 < s.size, ((s[a].toNat : Int) == 45) = false) ∨ (∃ h : a + 1 < s.size, ((s[a].toNat : Int) == 45) = true ∧ ((s[a + 1].toNat : Int) != 93) = false) := by
                by_cases d : a + 1 < s.size
                · by_cases d2 : s[a] = 45
                  · by_cases d3 : s[a + 1] = 93
                    · exact .inr (.inr ⟨d, by rw [d2]; rfl, by rw [d3]; rfl⟩)
                    · exact absurd ⟨d, d2, d3⟩ nd
                  · exact .inr (.inl ⟨d, beq_eq_false_iff_ne.2 (fun e => d2 (UInt8.toNat_inj.1 (by simp; omega)))⟩)
                · exact .inl (by omega)
              clear nd
              rcases key with d | ⟨d, d2⟩ | ⟨d, d2, d3⟩
              · go_wp2_with (at_builtin; refine append_k elR (w.heap.size + 1 + 1 + 1 + 1) _ rs.length (flatR rs) (HI.out.o.alloc _) wr.heap.size [.int .u8 f.toNat, .int .u8 f.toNat] rfl (.tmp 78) (.tmp 82) rfl rfl rfl rfl (news2 _ _ _ _) (ones2 _ _) (by omega) (by have := HI.out.size; simp; omega) ?_)
                intro v' w1 hown1 hgr1 hv1
                obtain ⟨g1, cap1, rfl, _⟩ := hv1
                have I1 := Lib.hid (ClsInv.push (r := (f, f)) HI.out hown1 hgr1)
                have hge := own_block_ge_k HI.out.o
                have hsz := HI.out.size
                have hc1 : w1.cell? ⟨w.heap.size + 1 + 1 + 1, 0, none⟩ = some (.slice va rs.length vc) := hgr1.cell (by rw [cell_alloc_old (by omega)]; exact hc) (fun e => by have := hge _ e.symm; simp only at this; omega)
                have hf1 : w1.frozen? ⟨w.heap.size + 1 + 1 + 1, 0, none⟩ = false := by
                  rw [World.frozen?_of_block (hgr1.block (w.heap.size + 1 + 1 + 1) (by simp; omega) (fun e => by have := hge _ e.symm; omega)), frozen_alloc_old (by omega)]; exact hf
                clear hge hsz
                go_wp2_with fail
                go_roundw
                case rel => exact ⟨a, m, rs ++ [(f, f)], _, by go_num, by omega, by omega, by simp; omega, HF.out.symm, I1.out⟩
                case measure => simp [intOf]; omega
              · go_wp2_with (at_builtin; refine append_k elR (w.heap.size + 1 + 1 + 1 + 1) _ rs.length (flatR rs) (HI.out.o.alloc _) wr.heap.size [.int .u8 f.toNat, .int .u8 f.toNat] rfl (.tmp 78) (.tmp 82) rfl rfl rfl rfl (news2 _ _ _ _) (ones2 _ _) (by omega) (by have := HI.out.size; simp; omega) ?_)
                intro v' w1 hown1 hgr1 hv1
                obtain ⟨g1, cap1, rfl, _⟩ := hv1
                have I1 := Lib.hid (ClsInv.push (r := (f, f)) HI.out hown1 hgr1)
                have hge := own_block_ge_k HI.out.o
                have hsz := HI.out.size
                have hc1 : w1.cell? ⟨w.heap.size + 1 + 1 + 1, 0, none⟩ = some (.slice va rs.length vc) := hgr1.cell (by rw [cell_alloc_old (by omega)]; exact hc) (fun e => by have := hge _ e.symm; simp only at this; omega)
                have hf1 : w1.frozen? ⟨w.heap.size + 1 + 1 + 1, 0, none⟩ = false := by
                  rw [World.frozen?_of_block (hgr1.block (w.heap.size + 1 + 1 + 1) (by simp; omega) (fun e => by have := hge _ e.symm; omega)), frozen_alloc_old (by omega)]; exact hf
                clear hge hsz
                go_wp2_with fail
                go_roundw
                case rel => exact ⟨a, m, rs ++ [(f, f)], _, by go_num, by omega, by omega, by simp; omega, HF.out.symm, I1.out⟩
                case measure => simp [intOf]; omega
              · go_wp2_with (at_builtin; refine append_k elR (w.heap.size + 1 + 1 + 1 + 1) _ rs.length (flatR rs) (HI.out.o.alloc _) wr.heap.size [.int .u8 f.toNat, .int .u8 f.toNat] rfl (.tmp 78) (.tmp 82) rfl rfl rfl rfl (news2 _ _ _ _) (ones2 _ _) (by omega) (by have := HI.out.size; simp; omega) ?_)
                intro v' w1 hown1 hgr1 hv1
                obtain ⟨g1, cap1, rfl, _⟩ := hv1
                have I1 := Lib.hid (ClsInv.push (r := (f, f)) HI.out hown1 hgr1)
                have hge := own_block_ge_k HI.out.o
                have hsz := HI.out.size
                have hc1 : w1.cell? ⟨w.heap.size + 1 + 1 + 1, 0, none⟩ = some (.slice va rs.length vc) := hgr1.cell (by rw [cell_alloc_old (by omega)]; exact hc) (fun e => by have := hge _ e.symm; simp only at this; omega)
                have hf1 : w1.frozen? ⟨w.heap.size + 1 + 1 + 1, 0, none⟩ = false := by
                  rw [World.frozen?_of_block (hgr1.block (w.heap.size + 1 + 1 + 1) (by simp; omega) (fun e => by have := hge _ e.symm; omega)), frozen_alloc_old (by omega)]; exact hf
                clear hge hsz
                go_wp2_with fail
                go_roundw
                case rel => exact ⟨a, m, rs ++ [(f, f)], _, by go_num, by omega, by omega, by simp; omega, HF.out.symm, I1.out⟩
                case measure => simp [intOf]; omega
            · obtain ⟨d, d2, d3⟩ := nd
              have e2 : ((s[a].toNat : Int) == 45) = true := by rw [d2]; rfl
              have e3 : ((s[a + 1].toNat : Int) != 93) = true := by rw [bne, beq_eq_false_iff_ne.2 (fun e => d3 (UInt8.toNat_inj.1 (by simp; omega)))]; rfl
              clear d2 d3
              have HQ4 := Lib.hid q4
              clear q4
              go_wp2_with fail
              refine ((HO (a + 1) _).out).mono ?_
              rintro e w1 ⟨rfl, hw1⟩
              obtain rfl := hw1.symm
              rcases HQ4.out with ⟨p1, p2⟩ | ⟨t, m2, p1, p2, p3, p4⟩
              · rw [p1]
                have HF := Lib.hid (HRR.out.symm.trans (rangesL_none hlt h93 p2))
                clear HR p2 HQ4
                go_wp2_with fail
                refine bodyPost_ret (results_row1 rfl _ _ (w.heap.size + 1) 86 _ (0, 0) _ rfl (by exact heap_setCell_same _ _ _ _ _ _ (heap_setCell_same _ _ _ _ _ _ HI.out.r)) Tryd.underlying86 rfl (by kernel_rfl)) rfl ?_
                exact ClsPost.none (by rw [HC.out, HF.out]; rfl) ((HI.out.ext.setCell (by simp) _).setCell (by simp) _)
              · rw [p1]
                obtain ⟨c, hcc⟩ : ∃ c, c = 1 + m2 := ⟨_, rfl⟩
                obtain ⟨b, hbb⟩ : ∃ b, b = a + c := ⟨_, rfl⟩
                have hic : (1 : Int) + (m2 : Int) = (c : Int) := by omega
                have hib : (a : Int) + (c : Int) = (b : Int) := by omega
                have hab : a < b := by omega
                rw [show a + 1 + m2 = b from by omega] at p3 p4
                have HB := Lib.hid hbb
                have HCC := Lib.hid hcc
                clear hbb hcc
                have n0 : ((m2 : Int) == 0) = false := beq_eq_false_iff_ne.2 (by omega)
                simp only
                rcases p4 with ⟨p4, p5⟩ | ⟨p4, p5⟩
                · have HF := Lib.hid (HRR.out.symm.trans (rangesL_none hlt h93 p5))
                  clear HR p5 HQ4
                  go_wp2_with fail
                  refine bodyPost_ret (results_row1 rfl _ _ (w.heap.size + 1) 86 _ (0, 0) _ rfl (by exact heap_setCell_same _ _ _ _ _ _ (heap_setCell_same _ _ _ _ _ _ HI.out.r)) Tryd.underlying86 rfl (by kernel_rfl)) rfl ?_
                  exact ClsPost.none (by rw [HC.out, HF.out]; rfl) ((HI.out.ext.setCell (by simp) _).setCell (by simp) _)
                · have HF := Lib.hid (HRR.out.symm.trans (rangesL_some hlt h93 p5))
                  clear HR p5 HQ4
                  go_wp2_with (at_builtin; refine append_k elR (w.heap.size + 1 + 1 + 1 + 1) _ rs.length (flatR rs) (HI.out.o.alloc _) wr.heap.size [.int .u8 f.toNat, .int .u8 t.toNat] rfl (.tmp 78) (.tmp 82) rfl rfl rfl rfl (news2 _ _ _ _) (ones2 _ _) (by omega) (by have := HI.out.size; simp; omega) ?_)
                  intro v' w1 hown1 hgr1 hv1
                  obtain ⟨g1, cap1, rfl, _⟩ := hv1
                  have I1 := Lib.hid (ClsInv.push (r := (f, t)) HI.out hown1 hgr1)
                  have hge := own_block_ge_k HI.out.o
                  have hsz := HI.out.size
                  have hc1 : w1.cell? ⟨w.heap.size + 1 + 1 + 1, 0, none⟩ = some (.slice va rs.length vc) := hgr1.cell (by rw [cell_alloc_old (by omega)]; exact hc) (fun e => by have := hge _ e.symm; simp only at this; omega)
                  have hf1 : w1.frozen? ⟨w.heap.size + 1 + 1 + 1, 0, none⟩ = false := by
                    rw [World.frozen?_of_block (hgr1.block (w.heap.size + 1 + 1 + 1) (by simp; omega) (fun e => by have := hge _ e.symm; omega)), frozen_alloc_old (by omega)]; exact hf
                  clear hge hsz
                  go_wp2_with fail
                  go_roundw
                  case rel => exact ⟨b, m, rs ++ [(f, t)], _, by go_num, by omega, by omega, by simp; omega, HF.out.symm, I1.out⟩
                  case measure => simp [intOf]; omega
      · have : k = s.size := by omega
        subst this
        have HF := Lib.hid (HRR.out.symm.trans rangesL_end)
        clear HR
        go_wp2_with fail
        refine bodyPost_ret (results_row1 rfl _ _ (w.heap.size + 1) 86 _ (0, 0) _ rfl (by exact heap_setCell_same _ _ _ _ _ _ (heap_setCell_same _ _ _ _ _ _ HI.out.r)) Tryd.underlying86 rfl (by kernel_rfl)) rfl ?_
        exact ClsPost.none (by rw [HC.out, HF.out]; rfl) ((HI.out.ext.setCell (by simp) _).setCell (by simp) _)
  · obtain ⟨R, hR0⟩ : ∃ R, R = rangesL (s.size + 1) [] (s.toList.drop 1) := ⟨_, rfl⟩
    have HC := Lib.hid (show classL s.toList = clsOf true R from by rw [hR0]; exact classL_of (negL_of HN.out))
    have HR0 := Lib.hid hR0
    have hs0 : 0 < s.size := by
      have := HN.out
      rcases Nat.eq_zero_or_pos s.size with h0 | h0
      · rw [← Lib.toList_data, toList_nil s h0] at this; cases this
      · exact h0
    clear hR0
    go_wp2_with fail
    go_loopw [6] (fun i wr => Hid (∃ k m rs v, i = .int .i64 (k : Nat) ∧ k ≤ s.size ∧ s.size - k < m ∧ rs.length ≤ k ∧ rangesL m rs (s.toList.drop k) = R ∧ ClsInv w bp true wr v rs)) (fun i _ => s.size - (intOf i).toNat)
    case atStart => exact ⟨1, s.size + 1, [], _, rfl, by omega, by omega, Nat.zero_le _, HR0.out.symm, ClsInv.start w bp true⟩
    case round =>
      obtain ⟨k, m, rs, v, rfl, hk, hm, hrl, hR, I⟩ := hrel.out
      obtain ⟨va, vc, rfl, hvc, hvc2, _⟩ := RangesAt.of_owns I.o
      unfold maxLen at hvc2
      obtain ⟨m, rfl⟩ : ∃ m', m = m' + 1 := ⟨m - 1, by omega⟩
      have HRR := Lib.hid hR
      clear hR hrel
      have hc : wr.cell? ⟨w.heap.size + 1 + 1 + 1, 0, none⟩ = some (.slice va rs.length vc) := cell_of_block I.c
      have hf : wr.frozen? ⟨w.heap.size + 1 + 1 + 1, 0, none⟩ = false := frozen_of_block I.c
      have r0 : wr.cell? ⟨w.heap.size + 1, 0, none⟩ = some .nilFunc := cell_of_block I.r
      have r1 : wr.cell? ⟨w.heap.size + 1, 1, none⟩ = some (.bool false) := cell_of_block I.r
      have rf0 : wr.frozen? ⟨w.heap.size + 1, 0, none⟩ = false := frozen_of_block I.r
      have rf1 : wr.frozen? ⟨w.heap.size + 1, 1, none⟩ = false := frozen_of_block I.r
      have rlt : w.heap.size + 1 < wr.heap.size := by have := I.size; omega
      have HI := Lib.hid I
      clear I
      by_cases hlt : k < s.size
      · by_cases h93 : s[k] = 93
        · have n93 : ((s[k].toNat : Int) != 93) = false := by rw [h93]; rfl
          have nk : ((k : Int) == s.size) = false := beq_eq_false_iff_ne.2 (by omega)
          cases rs with
          | nil =>
            have HF := Lib.hid (HRR.out.symm.trans (rangesL_close hlt h93))
            clear HR
            go_wp2_with fail
            refine bodyPost_ret (results_row1 rfl _ _ (w.heap.size + 1) 86 _ (0, 0) _ rfl (by exact heap_setCell_same _ _ _ _ _ _ (heap_setCell_same _ _ _ _ _ _ HI.out.r)) Tryd.underlying86 rfl (by kernel_rfl)) rfl ?_
            exact ClsPost.none (by rw [HC.out, HF.out]; rfl) ((HI.out.ext.setCell (by simp) _).setCell (by simp) _)
          | cons q rs' =>
            have HF := Lib.hid (HRR.out.symm.trans (rangesL_close hlt h93))
            clear HR
            have nl : (((q :: rs').length : Int) == 0) = false := beq_eq_false_iff_ne.2 (by simp; omega)
            generalize hqr : q :: rs' = rs at *
            have HQ := Lib.hid hqr
            clear hqr
            go_wp2_with fail
            refine bodyPost_ret (results_row1 rfl _ _ (w.heap.size + 1) 86 _ (0, 0) _ rfl (by exact (((Ext.refl _).alloc _).block (by simpa using rlt)).trans (heap_setCell_same _ _ _ _ _ _ (heap_setCell_same _ _ _ _ _ _ HI.out.r))) Tryd.underlying86 rfl (by kernel_rfl)) rfl ?_
            have HD := ClsInv.done HI.out _ rfl _ rfl
            refine ⟨⟨_, _, _, rfl, .inr ⟨_, _, rfl⟩, ?_⟩, HD.2⟩
            rw [HC.out, HF.out, ← HQ.out]
            refine ⟨?_, rfl, by rw [HQ.out]; exact HD.1⟩
            rw [List.length_drop, len_toList]
            go_num
        · have n93 : ((s[k].toNat : Int) != 93) = true := by rw [bne, beq_eq_false_iff_ne.2 (fun e => h93 (UInt8.toNat_inj.1 (by simp; omega)))]; rfl
          go_wp2_with fail
          refine ((HO k _).out).mono ?_
          rintro e w1 ⟨rfl, hw1⟩
          obtain rfl := hw1.symm
          rcases (HR k).out with ⟨q1, q2⟩ | ⟨f, n, q1, q2, q3, q4⟩
          · rw [q1]
            have HF := Lib.hid (HRR.out.symm.trans (rangesL_none hlt h93 q2))
            clear HR q2
            go_wp2_with fail
            refine bodyPost_ret (results_row1 rfl _ _ (w.heap.size + 1) 86 _ (0, 0) _ rfl (by exact heap_setCell_same _ _ _ _ _ _ (heap_setCell_same _ _ _ _ _ _ HI.out.r)) Tryd.underlying86 rfl (by kernel_rfl)) rfl ?_
            exact ClsPost.none (by rw [HC.out, HF.out]; rfl) ((HI.out.ext.setCell (by simp) _).setCell (by simp) _)
          · rw [q1]
            obtain ⟨a, ha⟩ : ∃ a, a = k + n := ⟨_, rfl⟩
            have hka : (k : Int) + (n : Int) = (a : Int) := by omega
            have hak : k < a := by omega
            rw [← ha] at q3 q4
            have HA := Lib.hid ha
            clear ha
            simp only
            rcases q4 with ⟨nd, q4⟩ | ⟨nd, q4⟩
            · have HF := Lib.hid (HRR.out.symm.trans (rangesL_some hlt h93 q4))
              clear HR q4
              have key : s.size ≤ a + 1 ∨ (∃ h : a + 1 < s.size, ((s[a].toNat : Int) == 45) = false) ∨ (∃ h : a + 1 < s.size, ((s[a].toNat : Int) == 45) = true ∧ ((s[a + 1].toNat : Int) != 93) = false) := by
                by_cases d : a + 1 < s.size
                · by_cases d2 : s[a] = 45
                  · by_cases d3 : s[a + 1] = 93
                    · exact .inr (.inr ⟨d, by rw [d2]; rfl, by rw [d3]; rfl⟩)
                    · exact absurd ⟨d, d2, d3⟩ nd
                  · exact .inr (.inl ⟨d, beq_eq_false_iff_ne.2 (fun e => d2 (UInt8.toNat_inj.1 (by simp; omega)))⟩)
                · exact .inl (by omega)
              clear nd
              rcases key with d | ⟨d, d2⟩ | ⟨d, d2, d3⟩
              · go_wp2_with (at_builtin; refine append_k elR (w.heap.size + 1 + 1 + 1 + 1) _ rs.length (flatR rs) (HI.out.o.alloc _) wr.heap.size [.int .u8 f.toNat, .int .u8 f.toNat] rfl (.tmp 78) (.tmp 82) rfl rfl rfl rfl (news2 _ _ _ _) (ones2 _ _) (by omega) (by have := HI.out.size; simp; omega) ?_)
                intro v' w1 hown1 hgr1 hv1
                obtain ⟨g1, cap1, rfl, _⟩ := hv1
                have I1 := Lib.hid (ClsInv.push (r := (f, f)) HI.out hown1 hgr1)
                have hge := own_block_ge_k HI.out.o
                have hsz := HI.out.size
                have hc1 : w1.cell? ⟨w.heap.size + 1 + 1 + 1, 0, none⟩ = some (.slice va rs.length vc) := hgr1.cell (by rw [cell_alloc_old (by omega)]; exact hc) (fun e => by have := hge _ e.symm; simp only at this; omega)
                have hf1 : w1.frozen? ⟨w.heap.size + 1 + 1 + 1, 0, none⟩ = false := by
                  rw [World.frozen?_of_block (hgr1.block (w.heap.size + 1 + 1 + 1) (by simp; omega) (fun e => by have := hge _ e.symm; omega)), frozen_alloc_old (by omega)]; exact hf
                clear hge hsz
                go_wp2_with fail
                go_roundw
                case rel => exact ⟨a, m, rs ++ [(f, f)], _, by go_num, by omega, by omega, by simp; omega, HF.out.symm, I1.out⟩
                case measure => simp [intOf]; omega
              · go_wp2_with (at_builtin; refine append_k elR (w.heap.size + 1 + 1 + 1 + 1) _ rs.length (flatR rs) (HI.out.o.alloc _) wr.heap.size [.int .u8 f.toNat, .int .u8 f.toNat] rfl (.tmp 78) (.tmp 82) rfl rfl rfl rfl (news2 _ _ _ _) (ones2 _ _) (by omega) (by have := HI.out.size; simp; omega) ?_)
                intro v' w1 hown1 hgr1 hv1
                obtain ⟨g1, cap1, rfl, _⟩ := hv1
                have I1 := Lib.hid (ClsInv.push (r := (f, f)) HI.out hown1 hgr1)
                have hge := own_block_ge_k HI.out.o
                have hsz := HI.out.size
                have hc1 : w1.cell? ⟨w.heap.size + 1 + 1 + 1, 0, none⟩ = some (.slice va rs.length vc) := hgr1.cell (by rw [cell_alloc_old (by omega)]; exact hc) (fun e => by have := hge _ e.symm; simp only at this; omega)
                have hf1 : w1.frozen? ⟨w.heap.size + 1 + 1 + 1, 0, none⟩ = false := by
                  rw [World.frozen?_of_block (hgr1.block (w.heap.size + 1 + 1 + 1) (by simp; omega) (fun e => by have := hge _ e.symm; omega)), frozen_alloc_old (by omega)]; exact hf
                clear hge hsz
                go_wp2_with fail
                go_roundw
                case rel => exact ⟨a, m, rs ++ [(f, f)], _, by go_num, by omega, by omega, by simp; omega, HF.out.symm, I1.out⟩
                case measure => simp [intOf]; omega
              · go_wp2_with (at_builtin; refine append_k elR (w.heap.size + 1 + 1 + 1 + 1) _ rs.length (flatR rs) (HI.out.o.alloc _) wr.heap.size [.int .u8 f.toNat, .int .u8 f.toNat] rfl (.tmp 78) (.tmp 82) rfl rfl rfl rfl (news2 _ _ _ _) (ones2 _ _) (by omega) (by have := HI.out.size; simp; omega) ?_)
                intro v' w1 hown1 hgr1 hv1
                obtain ⟨g1, cap1, rfl, _⟩ := hv1
                have I1 := Lib.hid (ClsInv.push (r := (f, f)) HI.out hown1 hgr1)
                have hge := own_block_ge_k HI.out.o
                have hsz := HI.out.size
                have hc1 : w1.cell? ⟨w.heap.size + 1 + 1 + 1, 0, none⟩ = some (.slice va rs.length vc) := hgr1.cell (by rw [cell_alloc_old (by omega)]; exact hc) (fun e => by have := hge _ e.symm; simp only at this; omega)
                have hf1 : w1.frozen? ⟨w.heap.size + 1 + 1 + 1, 0, none⟩ = false := by
                  rw [World.frozen?_of_block (hgr1.block (w.heap.size + 1 + 1 + 1) (by simp; omega) (fun e => by have := hge _ e.symm; omega)), frozen_alloc_old (by omega)]; exact hf
                clear hge hsz
                go_wp2_with fail
                go_roundw
                case rel => exact ⟨a, m, rs ++ [(f, f)], _, by go_num, by omega, by omega, by simp; omega, HF.out.symm, I1.out⟩
                case measure => simp [intOf]; omega
            · obtain ⟨d, d2, d3⟩ := nd
              have e2 : ((s[a].toNat : Int) == 45) = true := by rw [d2]; rfl
              have e3 : ((s[a + 1].toNat : Int) != 93) = true := by rw [bne, beq_eq_false_iff_ne.2 (fun e => d3 (UInt8.toNat_inj.1 (by simp; omega)))]; rfl
              clear d2 d3
              have HQ4 := Lib.hid q4
              clear q4
              go_wp2_with fail
              refine ((HO (a + 1) _).out).mono ?_
              rintro e w1 ⟨rfl, hw1⟩
              obtain rfl := hw1.symm
              rcases HQ4.out with ⟨p1, p2⟩ | ⟨t, m2, p1, p2, p3, p4⟩
              · rw [p1]
                have HF := Lib.hid (HRR.out.symm.trans (rangesL_none hlt h93 p2))
                clear HR p2 HQ4
                go_wp2_with fail
                refine bodyPost_ret (results_row1 rfl _ _ (w.heap.size + 1) 86 _ (0, 0) _ rfl (by exact heap_setCell_same _ _ _ _ _ _ (heap_setCell_same _ _ _ _ _ _ HI.out.r)) Tryd.underlying86 rfl (by kernel_rfl)) rfl ?_
                exact ClsPost.none (by rw [HC.out, HF.out]; rfl) ((HI.out.ext.setCell (by simp) _).setCell (by simp) _)
              · rw [p1]
                obtain ⟨c, hcc⟩ : ∃ c, c = 1 + m2 := ⟨_, rfl⟩
                obtain ⟨b, hbb⟩ : ∃ b, b = a + c := ⟨_, rfl⟩
                have hic : (1 : Int) + (m2 : Int) = (c : Int) := by omega
                have hib : (a : Int) + (c : Int) = (b : Int) := by omega
                have hab : a < b := by omega
                rw [show a + 1 + m2 = b from by omega] at p3 p4
                have HB := Lib.hid hbb
                have HCC := Lib.hid hcc
                clear hbb hcc
                have n0 : ((m2 : Int) == 0) = false := beq_eq_false_iff_ne.2 (by omega)
                simp only
                rcases p4 with ⟨p4, p5⟩ | ⟨p4, p5⟩
                · have HF := Lib.hid (HRR.out.symm.trans (rangesL_none hlt h93 p5))
                  clear HR p5 HQ4
                  go_wp2_with fail
                  refine bodyPost_ret (results_row1 rfl _ _ (w.heap.size + 1) 86 _ (0, 0) _ rfl (by exact heap_setCell_same _ _ _ _ _ _ (heap_setCell_same _ _ _ _ _ _ HI.out.r)) Tryd.underlying86 rfl (by kernel_rfl)) rfl ?_
                  exact ClsPost.none (by rw [HC.out, HF.out]; rfl) ((HI.out.ext.setCell (by simp) _).setCell (by simp) _)
                · have HF := Lib.hid (HRR.out.symm.trans (rangesL_some hlt h93 p5))
                  clear HR p5 HQ4
                  go_wp2_with (at_builtin; refine append_k elR (w.heap.size + 1 + 1 + 1 + 1) _ rs.length (flatR rs) (HI.out.o.alloc _) wr.heap.size [.int .u8 f.toNat, .int .u8 t.toNat] rfl (.tmp 78) (.tmp 82) rfl rfl rfl rfl (news2 _ _ _ _) (ones2 _ _) (by omega) (by have := HI.out.size; simp; omega) ?_)
                  intro v' w1 hown1 hgr1 hv1
                  obtain ⟨g1, cap1, rfl, _⟩ := hv1
                  have I1 := Lib.hid (ClsInv.push (r := (f, t)) HI.out hown1 hgr1)
                  have hge := own_block_ge_k HI.out.o
                  have hsz := HI.out.size
                  have hc1 : w1.cell? ⟨w.heap.size + 1 + 1 + 1, 0, none⟩ = some (.slice va rs.length vc) := hgr1.cell (by rw [cell_alloc_old (by omega)]; exact hc) (fun e => by have := hge _ e.symm; simp only at this; omega)
                  have hf1 : w1.frozen? ⟨w.heap.size + 1 + 1 + 1, 0, none⟩ = false := by
                    rw [World.frozen?_of_block (hgr1.block (w.heap.size + 1 + 1 + 1) (by simp; omega) (fun e => by have := hge _ e.symm; omega)), frozen_alloc_old (by omega)]; exact hf
                  clear hge hsz
                  go_wp2_with fail
                  go_roundw
                  case rel => exact ⟨b, m, rs ++ [(f, t)], _, by go_num, by omega, by omega, by simp; omega, HF.out.symm, I1.out⟩
                  case measure => simp [intOf]; omega
      · have : k = s.size := by omega
        subst this
        have HF := Lib.hid (HRR.out.symm.trans rangesL_end)
        clear HR
        go_wp2_with fail
        refine bodyPost_ret (results_row1 rfl _ _ (w.heap.size + 1) 86 _ (0, 0) _ rfl (by exact heap_setCell_same _ _ _ _ _ _ (heap_setCell_same _ _ _ _ _ _ HI.out.r)) Tryd.underlying86 rfl (by kernel_rfl)) rfl ?_
        exact ClsPost.none (by rw [HC.out, HF.out]; rfl) ((HI.out.ext.setCell (by simp) _).setCell (by simp) _)
end Go.Proofs.YtlabhbeacogfbaaDoor
