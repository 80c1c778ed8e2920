/- caravan/disk's within: the paths that lie within one, sorted. -/
import Derived.Test.YtldppmjjgljinaaGreatDoorTreeC
import Derived.Test.YtldppmjjgljinaaGreatDoorStepK
import Derived.Test.YtldppmjjgljinaaGreatDoorPathH
import Derived.Maps.RangeWalk
import Derived.Sort.KeysCollected
import Derived.Sort.OwnSorted
namespace Go.Proofs.YtldppmjjgljinaaGreatDoor
open Go.RowKit
open Go.Sort (Holds)
open Go.Maps (has_true_of_atKey)

theorem Ext.grownBy {w w' : World} (x : Ext w w') : w.grownBy w' none := ⟨Below.os x, Below.tape x, Below.output x, x.size, fun _ hb _ => x.block hb⟩
def keysD (l : Nodes) : List (List UInt8) := l.map fun x => x.1.data.toList
theorem strKeys_of {w : World} {b n : Nat} {D : DataW Value} {l : Nodes} (h : w.ownsMap Tryz.prog 9 RN b n D) (hn : (l.map (·.1)).Nodup) (hh : ∀ s : ByteArray, Maps.has D (.string s.data.toList) = (findA l s).isSome) : (keysD l).Perm (strKeys D) := by
  obtain ⟨es, rfl, hp, _⟩ := h.entries keyedN
  obtain ⟨es', he, hk⟩ := h.keysOf
  cases he
  exact perm_strKeys (ss := l.map fun x => x.1.data.toList) hp (fun p hp' => by
    obtain ⟨key, hkey⟩ := hk p hp'
    obtain ⟨x, _, hx, _⟩ := Maps.keyOf_str Tryz.underlying9 hkey
    exact ⟨x, hx⟩) (by
      rw [show (l.map fun x => x.1.data.toList) = (l.map (·.1)).map fun x => x.data.toList from by rw [List.map_map]; rfl]
      exact List.pairwise_map.2 (hn.imp fun hne e => hne (ba_data e))) (fun x => by
      have := hh ⟨x.toArray⟩
      rw [show (⟨x.toArray⟩ : ByteArray).data.toList = x from rfl] at this
      rw [this, findA_isSome]
      constructor
      · intro hx
        obtain ⟨y, hy, e⟩ := List.mem_map.1 hx
        refine List.mem_map.2 ⟨y, hy, ?_⟩
        rw [← e]
      · intro hx
        obtain ⟨y, hy, e⟩ := List.mem_map.1 hx
        exact List.mem_map.2 ⟨y, hy, by rw [e]⟩)
theorem mem_keysD {l : Nodes} {k : List UInt8} : k ∈ keysD l ↔ bsL k ∈ l.map (·.1) := by
  unfold keysD
  constructor
  · intro h
    obtain ⟨x, hx, rfl⟩ := List.mem_map.1 h
    exact List.mem_map.2 ⟨x, hx, rfl⟩
  · intro h
    obtain ⟨x, hx, e⟩ := List.mem_map.1 h
    exact List.mem_map.2 ⟨x, hx, by rw [e]; rfl⟩
/-- The keys of nodes that lie within a directory, in the order of bytes. -/
def insideL (d : ByteArray) (ks : List (List UInt8)) : List (List UInt8) := ks.filter fun k => withinB (bsL k) d
def withinsS (l : Nodes) (d : ByteArray) : List ByteArray := ((insideL d (keysD l)).mergeSort fun x y => decide (x ≤ y)).map bsL
theorem inside_snoc (d : ByteArray) (ks : List (List UInt8)) (k : List UInt8) : insideL d (ks ++ [k]) = insideL d ks ++ (if withinB (bsL k) d then [k] else []) := by
  unfold insideL
  rw [List.filter_append, List.filter_cons]
  cases withinB (bsL k) d <;> rfl
theorem inside_len (d : ByteArray) (ks : List (List UInt8)) : (insideL d ks).length ≤ ks.length := List.length_filter_le _ _
theorem enc_bsL (k : List UInt8) : encStr k = .string (bsL k) := rfl
theorem enc_map (ks : List (List UInt8)) : ks.map encStr = (ks.map bsL).map Value.string := by rw [List.map_map]; rfl
theorem sort_inside {l : Nodes} {d : ByteArray} {ss : List (List UInt8)} (h : ss.Perm (keysD l)) : ((insideL d ss).mergeSort fun x y => decide (x ≤ y)).map bsL = withinsS l d := by
  unfold withinsS
  rw [show ((insideL d ss).mergeSort fun x y => decide (x ≤ y)) = (insideL d (keysD l)).mergeSort fun x y => decide (x ≤ y) from mergeSort_of_perm (h.filter _)]
theorem RN_inv (v : Value) (y : DataW Value × List MemPlace) (_ : RN v = some y) : ∃ c : Value, v = id c := ⟨v, rfl⟩
theorem str_inv (key : Value) (kl : Lit) (hk : keyOf Tryz.prog 9 key = some kl) : ∃ x, key = encStr x := by obtain ⟨x, hx, _⟩ := Maps.keyOf_str Tryz.underlying9 hk; exact ⟨x, hx⟩

/-- While paths are collected. -/
def InsAt (w wr : World) (m n : Nat) (D : DataW Value) (d : ByteArray) (v : Value) : Prop :=
  ∃ (left : Lit → Bool) (cnt : Nat) (ss : List (List UInt8)), wr.ranges Tryz.prog 9 RN m w.heap.size n D left cnt ∧ ss.length + cnt ≤ Maps.size D ∧ wr.ownsRow w.heap.size 9 1 v (insideL d ss).length ((insideL d ss).map encStr) ∧ Collected D left ss ∧ Ext w wr

theorem ins_skip {w w2 w3 : World} {m n : Nat} {D : DataW Value} {d : ByteArray} {v : Value} {left : Lit → Bool} {cnt : Nat} {ss : List (List UInt8)} {x : List UInt8} (hrg : w2.ranges Tryz.prog 9 RN m w.heap.size n D left cnt) (x3 : Ext w2 w3) (hc : ss.length + cnt + 1 ≤ Maps.size D)
    (hrow : w2.ownsRow w.heap.size 9 1 v (insideL d ss).length ((insideL d ss).map encStr)) (hC : Collected D left (ss ++ [x])) (hs : insideL d (ss ++ [x]) = insideL d ss) (hx : Ext w w2) : InsAt w w3 m n D d v :=
  ⟨left, cnt, ss ++ [x], hrg.kept x3.grownBy (by simp) (by simp), by simp; omega, by rw [hs]; exact owns_ext hrow x3, hC, hx.trans x3⟩
theorem ins_add {w w2 w3 w4 : World} {o : Obj} {m n : Nat} {D : DataW Value} {d : ByteArray} {v v' : Value} {left : Lit → Bool} {cnt : Nat} {ss : List (List UInt8)} {x : List UInt8} (hrg : w2.ranges Tryz.prog 9 RN m w.heap.size n D left cnt) (x3 : Ext w2 w3) (hc : ss.length + cnt + 1 ≤ Maps.size D)
    (hrow : w3.ownsRow w.heap.size 9 1 v (insideL d ss).length ((insideL d ss).map encStr)) (hown : w4.ownsRow w.heap.size 9 1 v' ((insideL d ss).length + 1) ((insideL d ss).map encStr ++ [.string (bsL x)])) (hg : (w3.alloc o).grownBy w4 v.ownBlock)
    (hC : Collected D left (ss ++ [x])) (hs : insideL d (ss ++ [x]) = insideL d ss ++ (if true then [x] else [])) (hx : Ext w w2) (hm : m < w.heap.size) : InsAt w w4 m n D d v' ∧ w4.rangeLeft m w.heap.size = cnt := by
  have h3 := hrg.kept x3.grownBy (by simp) (by simp)
  have hge := own_block_ge hrow
  have h4 := (h3.alloc o).kept hg (fun e => by have := hge _ e.symm; omega) (row_ne_iter hrow h3)
  refine ⟨⟨left, cnt, ss ++ [x], h4, by simp; omega, ?_, hC, ?_⟩, h4.left_eq⟩
  · rw [hs]
    simp only [if_true, List.length_append, List.length_singleton, List.map_append, List.map_cons, List.map_nil]
    exact hown
  · exact Below.grown ((hx.trans x3).alloc o) hg ((hx.trans x3).alloc o).size (fun j hj => hge j hj)
theorem sorted_end {w wr : World} {l : Nodes} {d : ByteArray} {ss : List (List UInt8)} {g cap n : Nat} {cur : Array Value} {os : Array Obj} (hx : Ext w wr) (hp : ss.Perm (keysD l)) (hbase : w.heap.size ≤ g) (hb : wr.heap[g]? = some (.cells cur 9 (0, 0))) (h1 : (insideL d ss).length ≤ cap) (h2 : cap ≤ maxLen) (h3 : cur.size = cap * 1) :
    (Go.Sort.grow (Go.Sort.putRow encStr (Go.Sort.ahead wr n) g 0 ((insideL d ss).mergeSort fun x y => decide (x ≤ y)).toArray) os).ownsRow w.heap.size 9 1 (.slice (some ⟨g, 0, none⟩) (insideL d ss).length cap) (withinsS l d).length ((withinsS l d).map Value.string) ∧
    Ext w (Go.Sort.grow (Go.Sort.putRow encStr (Go.Sort.ahead wr n) g 0 ((insideL d ss).mergeSort fun x y => decide (x ≤ y)).toArray) os) := by
  have hs := ownsRow_sorted (ss := insideL d ss) (ts := (insideL d ss).mergeSort fun x y => decide (x ≤ y)) (os := os) (n := n) (by simp) hbase hb h1 h2 h3
  refine ⟨?_, ?_⟩
  · rw [← sort_inside hp, ← enc_map]
    simp only [List.length_map, List.length_mergeSort]
    exact hs
  · exact Below.grown hx (grownBy_sorted _) hx.size (fun j hj => by cases hj; exact hbase)

set_option maxHeartbeats 2000000 in
set_option maxRecDepth 100000 in
theorem dwithin_any (t m : Nat) (l : Nodes) (room : Nat) (d : ByteArray) (w : World) (E : Env w) (T : TreeAt w t m l room) (hd : d.size < 4294967280) (hl : l.length ≤ 1048576) (hk : ∀ x ∈ l, x.1.size ≤ 160) :
    Calls Tryz.prog 185 #[.pointer (some ⟨t, 0, none⟩), .string d] w fun e w' => ∃ v, e = .returned v ∧ w'.ownsRow w.heap.size 9 1 v (withinsS l d).length ((withinsS l d).map Value.string) ∧ Ext w w' := by
  have c0 : w.cell? ⟨t, 0, none⟩ = some (.map (some m)) := cellB T.blk
  obtain ⟨hnd, _, D, hown, hread⟩ := T.map
  have HP := Lib.hid (strKeys_of hown hnd fun s => (hread s).1)
  have hsz : Maps.size D = l.length := size_of hown hnd fun s => (hread s).1
  have HK := Lib.hid (show ∀ x : List UInt8, Maps.has D (.string x) = true → (bsL x).size ≤ 160 from fun x hx => by
    have := (hread (bsL x)).1
    rw [show (bsL x).data.toList = x from rfl, hx] at this
    obtain ⟨y, hy, e⟩ := List.mem_map.1 (findA_isSome.1 this.symm)
    rw [← e]; exact hk y hy)
  have W := fun k w hk E => Lib.hid (within_any (bsL k) d w hk hd E)
  have SS := fun blk off cap ss w h1 h2 h3 => Lib.hid (Tryz.slices_Sort_string blk off cap ss w h1 h2 h3)
  have SN := fun p cap w => Lib.hid (Tryz.slices_Sort_string_none p cap w)
  have HE := Lib.hid E
  have hm := T.map.lt
  clear hread T hnd hk
  go_enter Tryz.func185, Tryz.ntmps185
  go_wp2_with (at_range; refine wpList_range_own _ rfl _ 142 rfl 9 57 keyedN Tryz.underlying142 RN m l.length D rfl hown ?_; intro w0 hrg0 hg0 hs0)
  go_frame
  have H0 := Lib.hid (show InsAt w w0 m l.length D d (.slice none 0 0) from ⟨_, _, [], hrg0, by simp, World.ownsRow_nil _ _ _ _, Collected.start D, Below.grown (Below.refl _ _) hg0 (Nat.le_refl _) (fun j hj => by cases hj)⟩)
  clear hg0 hs0 hrg0
  go_loopw [4] (fun v wr => Hid (InsAt w wr m l.length D d v)) (fun _ wr => wr.rangeLeft m w.heap.size)
  case atStart => exact H0
  case round =>
    obtain ⟨left, cnt, ss, hrg, hcs, hrow, hC, hx⟩ := hrel.out
    clear hrel H0
    go_wp2_with (at_next; refine wpList_next_ranges _ rfl _ rfl 9 keyedN RN encStr id str_inv RN_inv m w.heap.size l.length D left cnt rfl hrg ?_ ?_)
    · intro hc0 hl0
      have hperm : ss.Perm (keysD l) := (hC.perm hrg.owns keyedN Tryz.underlying9 hl0).trans HP.out.symm
      have HPm := Lib.hid hperm
      have HX := Lib.hid hx
      have hil := inside_len d ss
      have hcs2 : ss.length ≤ l.length := by omega
      rcases hrow.2 with ⟨rfl, hnil⟩ | ⟨g, cap, cur, rfl, hbase, hb, h1, h2, h3, h4⟩
      · have HN := Lib.hid (show withinsS l d = [] from by
          have h0 : insideL d ss = [] := by simpa using hnil
          rw [← sort_inside hperm, h0]; simp)
        clear hC hrg hrow hnil hl0 hperm hx hcs hc0
        go_wp2_with fail
        refine (SN _ _ _).out.mono ?_
        rintro e w9 ⟨rfl, rfl⟩
        go_wp2_with fail
        go_ret
        exact ⟨_, rfl, by rw [HN.out]; exact World.ownsRow_nil _ _ _ _, HX.out⟩
      · have hH : Holds encStr wr g 0 (insideL d ss).toArray := holds_of_block hb (by simpa using h4)
        have hgl : g < wr.heap.size := (Array.getElem?_eq_some_iff.1 hb).1
        have HS := Lib.hid (SS g 0 cap (insideL d ss) wr hH hgl (by omega)).out
        have HEnd := fun n os => Lib.hid (sorted_end (n := n) (os := os) hx hperm hbase hb h1 h2 h3)
        clear hC hrg hrow hl0 hperm hx hcs hc0 h4 hH h3 hb SS SN
        go_wp2_with fail
        refine HS.out.mono ?_
        rintro e w9 ⟨rfl, n9, os9, rfl⟩
        have HE9 := HEnd n9 os9
        clear HEnd HS
        go_wp2_with fail
        go_ret
        exact ⟨_, rfl, HE9.out⟩
    · intro x c kl yd yp w2 cnt2 hkey hlk hv hat hrg2 hlt hg2 hs2 hen
      obtain ⟨x', ex, rfl, _⟩ := Maps.keyOf_str Tryz.underlying9 hkey
      obtain rfl : x = x' := encStr_inj ex
      have hen2 : (Instr.entry (.pointer (some ⟨w.heap.size, 0, none⟩))).run Tryz.prog w2 = .ok (.tuple #[.string (bsL x), c]) w2 := hen
      have hC2 := hC.step hlk hat
      have hxs := HK.out x (has_true_of_atKey hat)
      have hx2 : Ext w w2 := Below.grown hx hg2 hx.size (fun j hj => by cases hj; exact Nat.le_refl _)
      have hrow2 := hrow.kept hg2 (.inr (fun e => row_ne_iter hrow hrg e.symm))
      have HW := Lib.hid (W x w2 (by omega) (HE.out.ext hx2)).out
      have HX2 := Lib.hid hx2
      have HR2 := Lib.hid hrow2
      have HG2 := Lib.hid hrg2
      have HC2 := Lib.hid hC2
      have hil := inside_len d ss
      have HSn := Lib.hid (inside_snoc d ss x)
      have hcnt : ss.length + 1 + cnt2 ≤ l.length := by omega
      have HSZ := Lib.hid hsz
      have HLT := Lib.hid (show cnt2 < cnt from hlt)
      have HG := Lib.hid hrg
      clear hen hs2 hg2 hrg2 hv hkey ex hC hC2 hx hx2 hrow hrow2 hrg hlk hat hcs hlt W HK SS SN
      generalize withinB (bsL x) d = b at *
      cases b with
      | false =>
        go_wp2_with fail
        refine HW.out.mono ?_
        rintro e w3 ⟨rfl, x3⟩
        have HX3 := Lib.hid x3
        clear x3 HW
        go_wp2_with fail
        go_roundw
        case rel => exact ins_skip HG2.out HX3.out (by rw [Nat.add_right_comm] at hcnt; rw [HSZ.out]; exact hcnt) HR2.out HC2.out (by rw [HSn.out]; simp) HX2.out
        case measure =>
          have h1 := (HG2.out.kept HX3.out.grownBy (by simp) (by simp)).left_eq
          have h2 := HG.out.left_eq
          rw [h1, h2]; exact HLT.out
      | true =>
        go_wp2_with fail
        refine HW.out.mono ?_
        rintro e w3 ⟨rfl, x3⟩
        have HX3 := Lib.hid x3
        have HO3 := Lib.hid (owns_ext HR2.out x3)
        clear x3 HW
        go_wp2_with (at_builtin; refine append_one el_string w.heap.size _ _ _ (HO3.out.alloc _) w3.heap.size (.string (bsL x)) (.tmp 18) (.tmp 20) rfl rfl rfl rfl (by rw [cell_alloc_new rfl]; rfl) rfl (by omega) (by have := (HX2.out.trans HX3.out).size; simp; omega) ?_)
        intro v' w4 hown4 hg4 hv4
        have HF := Lib.hid (ins_add HG2.out HX3.out (by rw [Nat.add_right_comm] at hcnt; rw [HSZ.out]; exact hcnt) HO3.out hown4 hg4 HC2.out HSn.out HX2.out hm)
        clear hown4 hg4 hv4
        go_wp2_with fail
        go_roundw
        case rel => exact HF.out.1
        case measure =>
          have h2 := HG.out.left_eq
          rw [HF.out.2, h2]; exact HLT.out
end Go.Proofs.YtldppmjjgljinaaGreatDoor
