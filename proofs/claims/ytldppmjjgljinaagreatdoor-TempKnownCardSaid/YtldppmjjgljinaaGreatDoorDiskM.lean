/- caravan/disk's List. caravan/disk's Paths: the keys collected, sorted by the order of paths. caravan/disk's Copy. caravan/disk's Crash. -/
import Derived.Test.YtldppmjjgljinaaGreatDoorDiskI
import Derived.Test.YtldppmjjgljinaaGreatDoorPathF
namespace Go.Proofs.YtldppmjjgljinaaGreatDoor
open Go.RowKit
open Go.Sort (Holds)
open Go.Maps (has_true_of_atKey)

/-- The names of what lies in a directory, in the order of bytes. -/
def namesL (p : ByteArray) (ks : List (List UInt8)) : List (List UInt8) := (ks.filter fun k => decide (parentR (bsL k) = p)).map fun k => (baseR (bsL k)).data.toList
def listS (l : Nodes) (p : ByteArray) : List ByteArray := ((namesL p (keysD l)).mergeSort fun x y => decide (x ≤ y)).map bsL
/-- What List tells: an error, or names. -/
def listE (l : Nodes) (p : ByteArray) : List ByteArray × Int := if p.toList.isEmpty || mayB p then (if dirE l p = 0 then (listS l p, 0) else ([], dirE l p)) else ([], 10)

theorem names_snoc (p : ByteArray) (ks : List (List UInt8)) (k : List UInt8) : namesL p (ks ++ [k]) = namesL p ks ++ (if decide (parentR (bsL k) = p) then [(baseR (bsL k)).data.toList] else []) := by
  unfold namesL
  rw [List.filter_append, List.map_append, List.filter_cons]
  cases decide (parentR (bsL k) = p) <;> rfl
theorem names_len (p : ByteArray) (ks : List (List UInt8)) : (namesL p ks).length ≤ ks.length := by
  unfold namesL; rw [List.length_map]; exact List.length_filter_le _ _
theorem sort_names {l : Nodes} {p : ByteArray} {ss : List (List UInt8)} (h : ss.Perm (keysD l)) : ((namesL p ss).mergeSort fun x y => decide (x ≤ y)).map bsL = listS l p := by
  unfold listS
  rw [show ((namesL p ss).mergeSort fun x y => decide (x ≤ y)) = (namesL p (keysD l)).mergeSort fun x y => decide (x ≤ y) from mergeSort_of_perm ((h.filter _).map _)]
/-- While names are collected. -/
def NmAt (w0 wr : World) (m n : Nat) (D : DataW Value) (p : ByteArray) (v : Value) : Prop :=
  ∃ (left : Lit → Bool) (cnt : Nat) (ss : List (List UInt8)), wr.ranges Tryz.prog 9 RN m w0.heap.size n D left cnt ∧ ss.length + cnt ≤ Maps.size D ∧ wr.ownsRow w0.heap.size 9 1 v (namesL p ss).length ((namesL p ss).map encStr) ∧ Collected D left ss ∧ Ext w0 wr
theorem nm_skip {w0 w2 w3 : World} {m n : Nat} {D : DataW Value} {p : ByteArray} {v : Value} {left : Lit → Bool} {cnt : Nat} {ss : List (List UInt8)} {x : List UInt8} (hrg : w2.ranges Tryz.prog 9 RN m w0.heap.size n D left cnt) (x3 : Ext w2 w3) (hc : ss.length + cnt + 1 ≤ Maps.size D)
    (hrow : w2.ownsRow w0.heap.size 9 1 v (namesL p ss).length ((namesL p ss).map encStr)) (hC : Collected D left (ss ++ [x])) (hs : namesL p (ss ++ [x]) = namesL p ss) (hx0 : Ext w0 w2) : NmAt w0 w3 m n D p v :=
  ⟨left, cnt, ss ++ [x], hrg.kept x3.grownBy (by simp) (by simp), by simp; omega, by rw [hs]; exact owns_ext hrow x3, hC, hx0.trans x3⟩
theorem nm_add {w0 w2 w3 w4 : World} {o : Obj} {m n : Nat} {D : DataW Value} {p b : ByteArray} {v v' : Value} {left : Lit → Bool} {cnt : Nat} {ss : List (List UInt8)} {x : List UInt8} (hrg : w2.ranges Tryz.prog 9 RN m w0.heap.size n D left cnt) (x3 : Ext w2 w3) (hc : ss.length + cnt + 1 ≤ Maps.size D)
    (hrow : w3.ownsRow w0.heap.size 9 1 v (namesL p ss).length ((namesL p ss).map encStr)) (hown : w4.ownsRow w0.heap.size 9 1 v' ((namesL p ss).length + 1) ((namesL p ss).map encStr ++ [.string b])) (hg : (w3.alloc o).grownBy w4 v.ownBlock)
    (hC : Collected D left (ss ++ [x])) (hs : namesL p (ss ++ [x]) = namesL p ss ++ [b.data.toList]) (hx0 : Ext w0 w2) (hm : m < w0.heap.size) : NmAt w0 w4 m n D p v' ∧ w4.rangeLeft m w0.heap.size = cnt := by
  have h3 := hrg.kept x3.grownBy (by simp) (by simp)
  have hge := own_block_ge hrow
  have h4 := (h3.alloc o).kept hg (fun e => by have := hge _ e.symm; omega) (row_ne_iter hrow h3)
  have z0 := Below.grown ((hx0.trans x3).alloc o) hg ((hx0.trans x3).alloc o).size (fun j hj => hge j hj)
  refine ⟨⟨left, cnt, ss ++ [x], h4, by simp; omega, ?_, hC, z0⟩, h4.left_eq⟩
  · rw [hs]
    simp only [List.length_append, List.length_singleton, List.map_append, List.map_cons, List.map_nil]
    exact hown

theorem names_end {w0 wr : World} {l : Nodes} {p : ByteArray} {ss : List (List UInt8)} {g cap n : Nat} {cur : Array Value} {os : Array Obj} (hx : Ext w0 wr) (hp : ss.Perm (keysD l)) (hbase : w0.heap.size ≤ g) (hb : wr.heap[g]? = some (.cells cur 9 (0, 0))) (h1 : (namesL p ss).length ≤ cap) (h2 : cap ≤ maxLen) (h3 : cur.size = cap * 1) :
    (Go.Sort.grow (Go.Sort.putRow encStr (Go.Sort.ahead wr n) g 0 ((namesL p ss).mergeSort fun x y => decide (x ≤ y)).toArray) os).ownsRow w0.heap.size 9 1 (.slice (some ⟨g, 0, none⟩) (namesL p ss).length cap) (listS l p).length ((listS l p).map Value.string) ∧
    Ext w0 (Go.Sort.grow (Go.Sort.putRow encStr (Go.Sort.ahead wr n) g 0 ((namesL p ss).mergeSort fun x y => decide (x ≤ y)).toArray) os) := by
  have hs := ownsRow_sorted (ss := namesL p ss) (ts := (namesL p ss).mergeSort fun x y => decide (x ≤ y)) (os := os) (n := n) (by simp) hbase hb h1 h2 h3
  refine ⟨?_, ?_⟩
  · rw [← sort_names hp, ← enc_map]
    simp only [List.length_map, List.length_mergeSort]
    exact hs
  · exact Below.grown hx (grownBy_sorted _) hx.size (fun j hj => by cases hj; exact hbase)
theorem owns_base {W : World} {base base' : Nat} {e : TypeId} {size : Nat} {v : Value} {k : Nat} {xs : List Value} (h : W.ownsRow base e size v k xs) (hb : base' ≤ base) : W.ownsRow base' e size v k xs := by
  refine ⟨h.1, ?_⟩
  rcases h.2 with h1 | ⟨g, cap, cur, hv, hg, hh, hr⟩
  · exact .inl h1
  · exact .inr ⟨g, cap, cur, hv, Nat.le_trans hb hg, hh, hr⟩
/-- What List hands back. -/
def ListPost (w : World) (R : List ByteArray × Int) (e : Ending) (w' : World) : Prop := ∃ v, e = .returned (.tuple #[v, .int .i64 R.2]) ∧ w'.ownsRow w.heap.size 9 1 v R.1.length (R.1.map Value.string) ∧ Ext w w'
theorem ListPost.none {w w' : World} {R : List ByteArray × Int} {n : Int} (hR : R = ([], n)) (x : Ext w w') : ListPost w R (.returned (.tuple #[.slice none 0 0, .int .i64 n])) w' := by
  subst hR
  exact ⟨_, rfl, World.ownsRow_nil _ _ _ _, x⟩
theorem keyW {D : DataW Value} {l : Nodes} (hread : ∀ s : ByteArray, Maps.has D (.string s.data.toList) = (findA l s).isSome ∧ ∀ z, D.atKey (.string s.data.toList) z = (match findA l s with | some n => .held (nv n) | none => z)) (hk : ∀ x ∈ l, x.1.size ≤ 160) :
    ∀ x : List UInt8, Maps.has D (.string x) = true → (bsL x).size ≤ 160 := fun x hx => by
  have := (hread (bsL x)).1
  rw [show (bsL x).data.toList = x from rfl, hx] at this
  obtain ⟨y, hy, e⟩ := List.mem_map.1 (findA_isSome.1 this.symm)
  rw [← e]; exact hk y hy

set_option maxHeartbeats 8000000 in
set_option maxRecDepth 100000 in
theorem List_any {w : World} {d : Nat} {M I : List Nat} {D : Dk} (h : DkAt w d M I D) (O : DkOk D) (E : Env w) (p : ByteArray) (hp : p.size < 4294967281) :
    Calls Tryz.prog 61 #[.pointer (some ⟨d, 0, none⟩), .string p] w (ListPost w (listE D.live p)) := by
  have HR := Lib.hid (show listE D.live p = if p.toList.isEmpty || mayB p then (if dirE D.live p = 0 then (listS D.live p, 0) else ([], dirE D.live p)) else ([], 10) from rfl)
  obtain ⟨lt, lm, st, sm, lg, vs, h, hM⟩ := h
  have c0 : w.cell? ⟨d, 0, none⟩ = some (.pointer (some ⟨lt, 0, none⟩)) := cellB h.blk
  have H1 := Lib.hid (dis_any d _ w c0)
  have H2 := Lib.hid (may_any p w hp E)
  have H3 := fun w x => Lib.hid (ddir_any lt lm D.live D.room p w x (by unfold maxLen; omega) (O.live.nz p))
  have H4 := fun k w hk E => Lib.hid (parent_any (bsL k) w hk E)
  have H5 := fun k w hk E => Lib.hid (base_any (bsL k) w hk E)
  have SS := fun blk off cap ss w h1 h2 h3 => Lib.hid (Tryz.slices_Sort_string blk off cap ss w h1 h2 h3)
  have SN := fun p cap w => Lib.hid (Tryz.slices_Sort_string_none p cap w)
  have HT := Lib.hid h.live
  have HD := Lib.hid h.blk
  have hu := O.live.used
  have hr2 := O.r2
  have hlen := len_used D.live
  have hl2 : D.live.length ≤ 1048576 := by omega
  have HK := Lib.hid (show ∀ x ∈ D.live, x.1.size ≤ 160 from fun x hx => mayB_size (O.live.may x hx))
  have HE := Lib.hid E
  have hdl := ltB h.blk
  clear h hM O E hu hr2 hlen
  generalize D.live = l at *
  generalize D.room = room at *
  generalize hRR : listE l p = R at *
  generalize hEE : dirE l p = ed at *
  clear hRR hEE
  -- what a walk does behind the two tests
  cases hpe : (p.toList.isEmpty || mayB p) with
  | false =>
    have HR2 := Lib.hid (HR.out.trans (if_neg (by rw [hpe]; decide)))
    obtain ⟨q1, q2⟩ := Bool.or_eq_false_iff.1 hpe
    rw [q2] at H2
    have q3 : p.toList ≠ [] := by intro e; rw [e] at q1; cases q1
    have q4 : (!p.toList.isEmpty) = true := by rw [q1]; rfl
    clear hpe HR q2
    go_enter Tryz.func61, Tryz.ntmps61
    go_wp2_with fail
    refine H1.out.mono ?_
    rintro e w1 ⟨rfl, hw1⟩
    obtain rfl := hw1.symm
    clear hw1
    go_wp2_with fail
    refine H2.out.mono ?_
    rintro e w2 ⟨rfl, x2⟩
    have HX2 := Lib.hid x2
    clear x2
    go_wp2_with fail
    go_ret2
    exact ListPost.none HR2.out HX2.out
  | true =>
    have HR2 := Lib.hid (HR.out.trans (if_pos hpe))
    by_cases hed : ed = 0
    · have HR3 := Lib.hid (HR2.out.trans (if_pos hed))
      subst hed
      clear HR HR2
      cases hem : p.toList.isEmpty with
      | true =>
        have q3 : p.toList = [] := empty_of.1 hem
        clear hpe
        go_enter Tryz.func61, Tryz.ntmps61
        go_wp2_with fail
        refine H1.out.mono ?_
        rintro e w1 ⟨rfl, hw1⟩
        obtain rfl := hw1.symm
        clear hw1
        go_wp2_with fail
        refine (H3 _ HT.out).out.mono ?_
        rintro e w3 ⟨rfl, x3⟩
        have HX3 := Lib.hid x3
        have HT3 := Lib.hid (HT.out.ext x3)
        clear x3 c0 H1 H2 H3
        have t3 := HT3.out
        have d3 : w3.cell? ⟨d, 0, none⟩ = some (.pointer (some ⟨lt, 0, none⟩)) := cellB ((HX3.out.block hdl).trans HD.out)
        have l3 : w3.cell? ⟨lt, 0, none⟩ = some (.map (some lm)) := cellB t3.blk
        obtain ⟨hnd, _, D, hown, hread⟩ := t3.map
        have HP := Lib.hid (strKeys_of hown hnd fun s => (hread s).1)
        have hsz : Maps.size D = l.length := size_of hown hnd fun s => (hread s).1
        have HKD := Lib.hid (keyW hread HK.out)
        have hm : lm < w3.heap.size := t3.map.lt
        clear hread hnd t3
        go_wp2_with (at_range; refine wpList_range_own _ rfl _ 142 rfl 9 57 keyedN Tryz.underlying142 RN lm l.length D rfl hown ?_; intro w0 hrg0 hg0 hs0)
        go_frame
        have H0 := Lib.hid (show NmAt w3 w0 lm l.length D p (.slice none 0 0) from ⟨_, _, [], hrg0, by simp, World.ownsRow_nil _ _ _ _, Collected.start D, Below.grown (Below.refl _ _) hg0 (Nat.le_refl _) (fun j hj => by cases hj)⟩)
        clear hg0 hs0 hrg0 d3 l3
        go_loopw [7] (fun v wr => Hid (NmAt w3 wr lm l.length D p v)) (fun _ wr => wr.rangeLeft lm w3.heap.size)
        case atStart => exact H0
        case round =>
          obtain ⟨left, cnt, ss, hrg, hcs, hrow, hC, hx⟩ := hrel.out
          clear hrel H0
          go_wp2_with (at_next; refine wpList_next_ranges _ rfl _ rfl 9 keyedN RN encStr id str_inv RN_inv lm w3.heap.size l.length D left cnt rfl hrg ?_ ?_)
          · intro hc0 hl0
            have hperm : ss.Perm (keysD l) := (hC.perm hrg.owns keyedN Tryz.underlying9 hl0).trans HP.out.symm
            have HX := Lib.hid hx
            have hil := names_len p ss
            have hcs2 : ss.length ≤ l.length := by omega
            rcases hrow.2 with ⟨rfl, hnil⟩ | ⟨g, cap, cur, rfl, hbase, hb, h1, h2, h3, h4⟩
            · have HN := Lib.hid (show listS l p = [] from by
                have h0 : namesL p ss = [] := by simpa using hnil
                rw [← sort_names hperm, h0]; simp)
              clear hC hrg hrow hnil hl0 hperm hx hcs hc0
              go_wp2_with fail
              refine (SN _ _ _).out.mono ?_
              rintro e w9 ⟨rfl, rfl⟩
              go_wp2_with fail
              go_ret2
              rw [HR3.out]
              exact ⟨_, rfl, by rw [HN.out]; exact World.ownsRow_nil _ _ _ _, HX3.out.trans HX.out⟩
            · have hH : Holds encStr wr g 0 (namesL p ss).toArray := holds_of_block hb (by simpa using h4)
              have hgl : g < wr.heap.size := (Array.getElem?_eq_some_iff.1 hb).1
              have HS := Lib.hid (SS g 0 cap (namesL p ss) wr hH hgl (by omega)).out
              have HEnd := fun n os => Lib.hid (names_end (n := n) (os := os) hx hperm hbase hb h1 h2 h3)
              clear hC hrg hrow hl0 hperm hx hcs hc0 h4 hH h3 hb SS SN
              go_wp2_with fail
              refine HS.out.mono ?_
              rintro e w9 ⟨rfl, n9, os9, rfl⟩
              have HE9 := HEnd n9 os9
              clear HEnd HS
              go_wp2_with fail
              go_ret2
              rw [HR3.out]
              exact ⟨_, rfl, owns_base HE9.out.1 HX3.out.size, HX3.out.trans HE9.out.2⟩
          · intro x c kl yd yp w2 cnt2 hkey hlk hv hat hrg2 hlt hg2 hs2 hen
            obtain ⟨x', ex, rfl, _⟩ := Maps.keyOf_str Tryz.underlying9 hkey
            obtain rfl : x = x' := encStr_inj ex
            have hen2 : (Instr.entry (.pointer (some ⟨w3.heap.size, 0, none⟩))).run Tryz.prog w2 = .ok (.tuple #[.string (bsL x), c]) w2 := hen
            have hC2 := hC.step hlk hat
            have hxs := HKD.out x (has_true_of_atKey hat)
            have hx2 : Ext w3 w2 := Below.grown hx hg2 hx.size (fun j hj => by cases hj; exact Nat.le_refl _)
            have hrow2 := hrow.kept hg2 (.inr (fun e => row_ne_iter hrow hrg e.symm))
            have HW := Lib.hid (H4 x w2 (by omega) (HE.out.ext (HX3.out.trans hx2))).out
            have HW5 := fun w E => Lib.hid (H5 x w (by omega) E).out
            have HX2 := Lib.hid hx2
            have HR2 := Lib.hid hrow2
            have HG2 := Lib.hid hrg2
            have HC2 := Lib.hid hC2
            have hil := names_len p ss
            have HSn := Lib.hid (names_snoc p ss x)
            have hcnt : ss.length + 1 + cnt2 ≤ l.length := by omega
            have HSZ := Lib.hid hsz
            have HLT := Lib.hid (show cnt2 < cnt from hlt)
            have HG := Lib.hid hrg
            have hbz : (baseR (bsL x)).size ≤ 160 := by
              have : (baseR (bsL x)).size ≤ (bsL x).size := by
                unfold baseR; split
                · exact base_lt _
                · exact Nat.zero_le _
              omega
            clear hen hs2 hg2 hrg2 hv hkey ex hC hC2 hx hx2 hrow hrow2 hrg hlk hat hcs hlt HK SS SN H4 H5
            generalize parentR (bsL x) = up at *
            obtain ⟨bb, hbb⟩ : ∃ bb, baseR (bsL x) = bb := ⟨_, rfl⟩
            rw [hbb] at HSn HW5 hbz
            by_cases hup : up = p
            · have u1 : (up.toList == p.toList) = true := by rw [hup]; simp
              have HSn2 := Lib.hid (show namesL p (ss ++ [x]) = namesL p ss ++ [bb.data.toList] from by rw [HSn.out, hup]; simp)
              subst hup
              clear hbb
              go_wp2_with fail
              refine HW.out.mono ?_
              rintro e w4 ⟨rfl, x4⟩
              have HX4 := Lib.hid x4
              clear x4 HW
              go_wp2_with fail
              refine (HW5 _ (HE.out.ext ((HX3.out.trans HX2.out).trans HX4.out))).out.mono ?_
              rintro e w5 ⟨rfl, x5⟩
              have HX5 := Lib.hid (HX4.out.trans x5)
              have HO3 := Lib.hid (owns_ext HR2.out HX5.out)
              clear x5 HX4
              go_wp2_with (at_builtin; refine append_one el_string w3.heap.size _ _ _ (HO3.out.alloc _) w5.heap.size (.string bb) (.tmp 52) (.tmp 55) rfl rfl rfl rfl (by rw [cell_alloc_new rfl]; rfl) rfl (by omega) (by have := (HX2.out.trans HX5.out).size; simp; omega) ?_)
              intro v' w6 hown4 hg4 hv4
              have HF := Lib.hid (nm_add HG2.out HX5.out (by rw [Nat.add_right_comm] at hcnt; rw [HSZ.out]; exact hcnt) HO3.out hown4 hg4 HC2.out HSn2.out HX2.out hm)
              clear hown4 hg4 hv4
              go_wp2_with fail
              go_roundw
              case rel => exact HF.out.1
              case measure =>
                have h2 := HG.out.left_eq
                rw [HF.out.2, h2]; exact HLT.out
            · have u1 : (up.toList == p.toList) = false := by simpa using fun e => hup (ba_ext e)
              have u4 : ¬ up.toList = [] := fun e => hup (ba_ext (e.trans q3.symm))
              have u5 : up.toList.isEmpty = false := by cases e : up.toList with | nil => exact absurd e u4 | cons _ _ => rfl
              have u6 : (!up.toList.isEmpty) = true := by rw [u5]; rfl
              have HSn2 := Lib.hid (show namesL p (ss ++ [x]) = namesL p ss from by rw [HSn.out]; simp [hup])
              clear hbb
              go_wp2_with fail
              refine HW.out.mono ?_
              rintro e w4 ⟨rfl, x4⟩
              have HX4 := Lib.hid x4
              clear x4 HW
              go_wp2_with fail
              go_roundw
              case rel => exact nm_skip HG2.out HX4.out (by rw [Nat.add_right_comm] at hcnt; rw [HSZ.out]; exact hcnt) HR2.out HC2.out HSn2.out HX2.out
              case measure =>
                have h1 := (HG2.out.kept HX4.out.grownBy (by simp) (by simp)).left_eq
                have h2 := HG.out.left_eq
                rw [h1, h2]; exact HLT.out
      | false =>
        rw [hem, Bool.false_or] at hpe
        rw [hpe] at H2
        have q3 : p.toList ≠ [] := by intro e; rw [e] at hem; cases hem
        have q4 : (!p.toList.isEmpty) = true := by rw [hem]; rfl
        clear hpe hem
        go_enter Tryz.func61, Tryz.ntmps61
        go_wp2_with fail
        refine H1.out.mono ?_
        rintro e w1 ⟨rfl, hw1⟩
        obtain rfl := hw1.symm
        clear hw1
        go_wp2_with fail
        refine H2.out.mono ?_
        rintro e w2 ⟨rfl, x2⟩
        have c2 : w2.cell? ⟨d, 0, none⟩ = some (.pointer (some ⟨lt, 0, none⟩)) := cellB ((x2.block hdl).trans HD.out)
        have HX2 := Lib.hid x2
        clear x2
        go_wp2_with fail
        refine (H3 _ (HT.out.ext HX2.out)).out.mono ?_
        rintro e w3 ⟨rfl, x3⟩
        have HX3 := Lib.hid (HX2.out.trans x3)
        have HT3 := Lib.hid ((HT.out.ext HX2.out).ext x3)
        clear x3 c0 c2 HX2 H1 H2 H3
        have t3 := HT3.out
        have d3 : w3.cell? ⟨d, 0, none⟩ = some (.pointer (some ⟨lt, 0, none⟩)) := cellB ((HX3.out.block hdl).trans HD.out)
        have l3 : w3.cell? ⟨lt, 0, none⟩ = some (.map (some lm)) := cellB t3.blk
        obtain ⟨hnd, _, D, hown, hread⟩ := t3.map
        have HP := Lib.hid (strKeys_of hown hnd fun s => (hread s).1)
        have hsz : Maps.size D = l.length := size_of hown hnd fun s => (hread s).1
        have HKD := Lib.hid (keyW hread HK.out)
        have hm : lm < w3.heap.size := t3.map.lt
        clear hread hnd t3
        go_wp2_with (at_range; refine wpList_range_own _ rfl _ 142 rfl 9 57 keyedN Tryz.underlying142 RN lm l.length D rfl hown ?_; intro w0 hrg0 hg0 hs0)
        go_frame
        have H0 := Lib.hid (show NmAt w3 w0 lm l.length D p (.slice none 0 0) from ⟨_, _, [], hrg0, by simp, World.ownsRow_nil _ _ _ _, Collected.start D, Below.grown (Below.refl _ _) hg0 (Nat.le_refl _) (fun j hj => by cases hj)⟩)
        clear hg0 hs0 hrg0 d3 l3
        go_loopw [7] (fun v wr => Hid (NmAt w3 wr lm l.length D p v)) (fun _ wr => wr.rangeLeft lm w3.heap.size)
        case atStart => exact H0
        case round =>
          obtain ⟨left, cnt, ss, hrg, hcs, hrow, hC, hx⟩ := hrel.out
          clear hrel H0
          go_wp2_with (at_next; refine wpList_next_ranges _ rfl _ rfl 9 keyedN RN encStr id str_inv RN_inv lm w3.heap.size l.length D left cnt rfl hrg ?_ ?_)
          · intro hc0 hl0
            have hperm : ss.Perm (keysD l) := (hC.perm hrg.owns keyedN Tryz.underlying9 hl0).trans HP.out.symm
            have HX := Lib.hid hx
            have hil := names_len p ss
            have hcs2 : ss.length ≤ l.length := by omega
            rcases hrow.2 with ⟨rfl, hnil⟩ | ⟨g, cap, cur, rfl, hbase, hb, h1, h2, h3, h4⟩
            · have HN := Lib.hid (show listS l p = [] from by
                have h0 : namesL p ss = [] := by simpa using hnil
                rw [← sort_names hperm, h0]; simp)
              clear hC hrg hrow hnil hl0 hperm hx hcs hc0
              go_wp2_with fail
              refine (SN _ _ _).out.mono ?_
              rintro e w9 ⟨rfl, rfl⟩
              go_wp2_with fail
              go_ret2
              rw [HR3.out]
              exact ⟨_, rfl, by rw [HN.out]; exact World.ownsRow_nil _ _ _ _, HX3.out.trans HX.out⟩
            · have hH : Holds encStr wr g 0 (namesL p ss).toArray := holds_of_block hb (by simpa using h4)
              have hgl : g < wr.heap.size := (Array.getElem?_eq_some_iff.1 hb).1
              have HS := Lib.hid (SS g 0 cap (namesL p ss) wr hH hgl (by omega)).out
              have HEnd := fun n os => Lib.hid (names_end (n := n) (os := os) hx hperm hbase hb h1 h2 h3)
              clear hC hrg hrow hl0 hperm hx hcs hc0 h4 hH h3 hb SS SN
              go_wp2_with fail
              refine HS.out.mono ?_
              rintro e w9 ⟨rfl, n9, os9, rfl⟩
              have HE9 := HEnd n9 os9
              clear HEnd HS
              go_wp2_with fail
              go_ret2
              rw [HR3.out]
              exact ⟨_, rfl, owns_base HE9.out.1 HX3.out.size, HX3.out.trans HE9.out.2⟩
          · intro x c kl yd yp w2 cnt2 hkey hlk hv hat hrg2 hlt hg2 hs2 hen
            obtain ⟨x', ex, rfl, _⟩ := Maps.keyOf_str Tryz.underlying9 hkey
            obtain rfl : x = x' := encStr_inj ex
            have hen2 : (Instr.entry (.pointer (some ⟨w3.heap.size, 0, none⟩))).run Tryz.prog w2 = .ok (.tuple #[.string (bsL x), c]) w2 := hen
            have hC2 := hC.step hlk hat
            have hxs := HKD.out x (has_true_of_atKey hat)
            have hx2 : Ext w3 w2 := Below.grown hx hg2 hx.size (fun j hj => by cases hj; exact Nat.le_refl _)
            have hrow2 := hrow.kept hg2 (.inr (fun e => row_ne_iter hrow hrg e.symm))
            have HW := Lib.hid (H4 x w2 (by omega) (HE.out.ext (HX3.out.trans hx2))).out
            have HW5 := fun w E => Lib.hid (H5 x w (by omega) E).out
            have HX2 := Lib.hid hx2
            have HR2 := Lib.hid hrow2
            have HG2 := Lib.hid hrg2
            have HC2 := Lib.hid hC2
            have hil := names_len p ss
            have HSn := Lib.hid (names_snoc p ss x)
            have hcnt : ss.length + 1 + cnt2 ≤ l.length := by omega
            have HSZ := Lib.hid hsz
            have HLT := Lib.hid (show cnt2 < cnt from hlt)
            have HG := Lib.hid hrg
            have hbz : (baseR (bsL x)).size ≤ 160 := by
              have : (baseR (bsL x)).size ≤ (bsL x).size := by
                unfold baseR; split
                · exact base_lt _
                · exact Nat.zero_le _
              omega
            clear hen hs2 hg2 hrg2 hv hkey ex hC hC2 hx hx2 hrow hrow2 hrg hlk hat hcs hlt HK SS SN H4 H5
            generalize parentR (bsL x) = up at *
            obtain ⟨bb, hbb⟩ : ∃ bb, baseR (bsL x) = bb := ⟨_, rfl⟩
            rw [hbb] at HSn HW5 hbz
            by_cases hup : up = p
            · have u1 : (up.toList == p.toList) = true := by rw [hup]; simp
              have HSn2 := Lib.hid (show namesL p (ss ++ [x]) = namesL p ss ++ [bb.data.toList] from by rw [HSn.out, hup]; simp)
              subst hup
              clear hbb
              go_wp2_with fail
              refine HW.out.mono ?_
              rintro e w4 ⟨rfl, x4⟩
              have HX4 := Lib.hid x4
              clear x4 HW
              go_wp2_with fail
              refine (HW5 _ (HE.out.ext ((HX3.out.trans HX2.out).trans HX4.out))).out.mono ?_
              rintro e w5 ⟨rfl, x5⟩
              have HX5 := Lib.hid (HX4.out.trans x5)
              have HO3 := Lib.hid (owns_ext HR2.out HX5.out)
              clear x5 HX4
              go_wp2_with (at_builtin; refine append_one el_string w3.heap.size _ _ _ (HO3.out.alloc _) w5.heap.size (.string bb) (.tmp 52) (.tmp 55) rfl rfl rfl rfl (by rw [cell_alloc_new rfl]; rfl) rfl (by omega) (by have := (HX2.out.trans HX5.out).size; simp; omega) ?_)
              intro v' w6 hown4 hg4 hv4
              have HF := Lib.hid (nm_add HG2.out HX5.out (by rw [Nat.add_right_comm] at hcnt; rw [HSZ.out]; exact hcnt) HO3.out hown4 hg4 HC2.out HSn2.out HX2.out hm)
              clear hown4 hg4 hv4
              go_wp2_with fail
              go_roundw
              case rel => exact HF.out.1
              case measure =>
                have h2 := HG.out.left_eq
                rw [HF.out.2, h2]; exact HLT.out
            · have u1 : (up.toList == p.toList) = false := by simpa using fun e => hup (ba_ext e)
              have HSn2 := Lib.hid (show namesL p (ss ++ [x]) = namesL p ss from by rw [HSn.out]; simp [hup])
              clear hbb
              go_wp2_with fail
              refine HW.out.mono ?_
              rintro e w4 ⟨rfl, x4⟩
              have HX4 := Lib.hid x4
              clear x4 HW
              go_wp2_with fail
              go_roundw
              case rel => exact nm_skip HG2.out HX4.out (by rw [Nat.add_right_comm] at hcnt; rw [HSZ.out]; exact hcnt) HR2.out HC2.out HSn2.out HX2.out
              case measure =>
                have h1 := (HG2.out.kept HX4.out.grownBy (by simp) (by simp)).left_eq
                have h2 := HG.out.left_eq
                rw [h1, h2]; exact HLT.out
    · have HR3 := Lib.hid (HR2.out.trans (if_neg hed))
      have n1 : (ed == 0) = false := by simpa using hed
      have n2 : (ed != 0) = true := by simpa using hed
      cases hem : p.toList.isEmpty with
      | true =>
        have q3 : p.toList = [] := empty_of.1 hem
        clear hpe HR HR2
        go_enter Tryz.func61, Tryz.ntmps61
        go_wp2_with fail
        refine H1.out.mono ?_
        rintro e w1 ⟨rfl, hw1⟩
        obtain rfl := hw1.symm
        clear hw1
        go_wp2_with fail
        refine (H3 _ HT.out).out.mono ?_
        rintro e w3 ⟨rfl, x3⟩
        have HX3 := Lib.hid x3
        clear x3
        go_wp2_with fail
        go_ret2
        exact ListPost.none HR3.out HX3.out
      | false =>
        rw [hem, Bool.false_or] at hpe
        rw [hpe] at H2
        have q3 : p.toList ≠ [] := by intro e; rw [e] at hem; cases hem
        have q4 : (!p.toList.isEmpty) = true := by rw [hem]; rfl
        clear hpe HR HR2 hem
        go_enter Tryz.func61, Tryz.ntmps61
        go_wp2_with fail
        refine H1.out.mono ?_
        rintro e w1 ⟨rfl, hw1⟩
        obtain rfl := hw1.symm
        clear hw1
        go_wp2_with fail
        refine H2.out.mono ?_
        rintro e w2 ⟨rfl, x2⟩
        have c2 : w2.cell? ⟨d, 0, none⟩ = some (.pointer (some ⟨lt, 0, none⟩)) := cellB ((x2.block hdl).trans HD.out)
        have HX2 := Lib.hid x2
        clear x2
        go_wp2_with fail
        refine (H3 _ (HT.out.ext HX2.out)).out.mono ?_
        rintro e w3 ⟨rfl, x3⟩
        have HX3 := Lib.hid (HX2.out.trans x3)
        clear x3
        go_wp2_with fail
        go_ret2
        exact ListPost.none HR3.out HX3.out
end Go.Proofs.YtldppmjjgljinaaGreatDoor

namespace Go.Proofs.YtldppmjjgljinaaGreatDoor
open Go.RowKit
open Go.Sort (Holds SWO)
open Go.Maps (has_true_of_atKey)

theorem enters_keys : ∀ args w, (callFunc 155 args).run Tryz.prog w = .ok (.enter 155 args) w :=
  enters_of Tryz.func155 (by kernel_rfl) rfl
theorem enters_cmp : ∀ args w, (callFunc 31 args).run Tryz.prog w = .ok (.enter 31 args) w := enters_of Tryz.func31 (by kernel_rfl) rfl
theorem keys_calls (mb : Option Nat) (w : World) :
    Calls Tryz.prog 91 #[.map mb] w fun e w' => e = .returned (.func (.func 155) #[] #[.pointer (some ⟨w.heap.size, 0, none⟩)]) ∧ w' = w.alloc (.cells #[.map mb] 142) :=
  callsIn_wide.1 (AnyZ.keys_in Tryz.mapsKeys Fence.wide 5 trivial rfl mb w)
theorem collect_calls {b n : Nat} {D : DataW Value} {w : World} (hown : w.ownsMap Tryz.prog 9 RN b n D) (hmax : Maps.size D ≤ 1048576) :
    Calls Tryz.prog 153 #[.func (.func 155) #[] #[.pointer (some ⟨w.heap.size, 0, none⟩)]] (w.alloc (.cells #[.map (some b)] 142)) fun e w' =>
      ∃ (v : Value) (ss : List (List UInt8)), e = .returned v ∧ ss.Perm (strKeys D) ∧ w'.ownsRow (w.heap.size + 1) 9 1 v ss.length (ss.map encStr) ∧ Ext w w' := by
  have hbl := hown.lt
  have hseq : SeqGives Fence.wide 3 Tryz.prog 155 #[.pointer (some ⟨w.heap.size, 0, none⟩)] encStr (fun ss => ss.Perm (strKeys D)) (Maps.size D) (w.alloc (.cells #[.map (some b)] 142)) :=
    AnyZ.keys_gives (ρ := Tryz.mapsKeys_ren) { Tryz.mapsKeys with } Fence.wide _ trivial rfl (by omega) w.heap.size b n D _ (by rw [size_alloc]; omega) cell1 (by
      obtain ⟨es, clock, hb, Ft, hs, hD⟩ := hown
      exact ⟨es, clock, (block_alloc_old hbl).trans hb, Ft, hs, hD⟩)
  refine (callsIn_wide.1 (AnyZ.collect_in Tryz.collect Fence.wide 5 trivial trivial rfl (by omega) _ _ trivial enters_keys _ _ (by unfold maxLen; omega) (by omega) _ hseq)).mono ?_
  rintro e w' ⟨v, ss, h1, h2, h3, h4, h5⟩
  rw [size_alloc] at h3
  exact ⟨v, ss, h1, h2, h3, Ext.trans ((Ext.refl w).alloc _) h5⟩

/-- Texts that are not too long. -/
abbrev Txt160 := { l : List UInt8 // l.length ≤ 160 }
instance : Inhabited Txt160 := ⟨⟨[], Nat.zero_le _⟩⟩
def encT (x : Txt160) : Value := encStr x.1
def cmpT (x y : Txt160) : Int := cmpL x.1 y.1
theorem swoT : SWO (ltOf cmpT) := by
  have val : ∀ x y : Txt160, ltOf cmpT x y = true ↔ cmpL x.1 y.1 = -1 := fun x y => by
    unfold ltOf cmpT
    rw [decide_eq_true_eq]
    rcases cmpL_vals x.1 y.1 with h | h | h <;> rw [h] <;> simp
  have nval : ∀ x y : Txt160, ltOf cmpT x y = false ↔ cmpL x.1 y.1 ≠ -1 := fun x y => by
    constructor
    · intro h e
      rw [(val x y).2 e] at h
      cases h
    · intro h
      cases hb : ltOf cmpT x y with
      | false => rfl
      | true => exact absurd ((val x y).1 hb) h
  refine ⟨fun x => ?_, fun x y z h1 h2 => ?_, fun x y z h1 h2 => ?_⟩
  · rw [nval, cmpL_self]; decide
  · rw [val] at *; exact cmpL_trans _ _ _ h1 h2
  · rw [nval] at *
    intro h3
    have e1 : cmpL z.1 x.1 = 1 := by rw [cmpL_anti, h3]; rfl
    rcases cmpL_vals x.1 y.1 with h | h | h
    · exact h1 h
    · have := cmpL_zero _ _ h
      rw [this] at h3; exact h2 h3
    · rcases cmpL_vals y.1 z.1 with k | k | k
      · exact h2 k
      · have := cmpL_zero _ _ k
        rw [← this] at h3; exact h1 h3
      · have a1 : cmpL y.1 x.1 = -1 := by rw [cmpL_anti, h]
        have a2 : cmpL z.1 y.1 = -1 := by rw [cmpL_anti, k]
        have := cmpL_trans _ _ _ a2 a1
        rw [e1] at this
        cases this
theorem totT (x y : Txt160) (h1 : ltOf cmpT x y = false) (h2 : ltOf cmpT y x = false) : x = y := by
  unfold ltOf cmpT at h1 h2
  rw [decide_eq_false_iff_not] at h1 h2
  rcases cmpL_vals x.1 y.1 with h | h | h
  · rw [h] at h1; exact absurd (by decide) h1
  · exact Subtype.ext (cmpL_zero _ _ h)
  · have : cmpL y.1 x.1 = -1 := by rw [cmpL_anti, h]
    rw [this] at h2; exact absurd (by decide) h2
theorem putRowT (w : World) (blk off : Nat) (d : Array Txt160) : Go.Sort.putRow encT w blk off d = Go.Sort.putRow encStr w blk off (d.map (·.1)) := by
  unfold Go.Sort.putRow
  congr 1
  funext c
  unfold Go.Sort.putCells
  refine Array.ext (by simp) fun i h1 h2 => ?_
  simp only [Array.getElem_mapIdx, Array.size_map]
  split
  · rename_i h
    have hi : i - off < d.size := by omega
    rw [getElem!_pos d (i - off) hi, getElem!_pos (d.map (·.1)) (i - off) (by simpa using hi), Array.getElem_map]
    rfl
  · rfl
/-- The keys of a tree, sorted by the order of paths, are its own. -/
theorem sort_live {l : Nodes} (hs : Sorted l) {d : List Txt160} (hp : (d.map (·.1)).Perm (keysD l)) : (d.mergeSort fun x y => !(ltOf cmpT) y x).map (·.1) = keysD l := by
  have tr : ∀ a b c : Txt160, (!(ltOf cmpT) b a) = true → (!(ltOf cmpT) c b) = true → (!(ltOf cmpT) c a) = true := fun a b c h1 h2 => by
    simp only [Bool.not_eq_true'] at *
    exact swoT.ntrans _ _ _ h2 h1
  have tot : ∀ a b : Txt160, ((!(ltOf cmpT) b a) || (!(ltOf cmpT) a b)) = true := fun a b => by
    cases h1 : ltOf cmpT b a with
    | false => rfl
    | true =>
      cases h2 : ltOf cmpT a b with
      | false => rfl
      | true => have := swoT.trans _ _ _ h1 h2; rw [swoT.irrefl] at this; cases this
  have h1 := List.pairwise_mergeSort tr tot d
  refine List.Perm.eq_of_pairwise (le := fun a b => cmpL b a ≠ -1) (fun a b _ _ k1 k2 => ?_) ?_ ?_ (((List.mergeSort_perm d _).map (·.1)).trans hp)
  · rcases cmpL_vals a b with h | h | h
    · exact absurd h k2
    · exact cmpL_zero _ _ h
    · exact absurd (by rw [cmpL_anti, h]) k1
  · refine List.pairwise_map.2 (h1.imp fun {x y} h e => ?_)
    simp only [Bool.not_eq_true'] at h
    unfold ltOf cmpT at h
    rw [e] at h
    cases h
  · unfold keysD
    refine List.pairwise_map.2 (hs.imp fun {x y} h e => ?_)
    rw [← Lib.toList_data, ← Lib.toList_data] at e
    rw [cmpL_anti, h] at e
    cases e

theorem paths_end {w2 : World} {l : Nodes} {base g cap n : Nat} {cur : Array Value} {os : Array Obj} {ss : List (List UInt8)} {d : List Txt160} (hs : Sorted l) (hp : ss.Perm (keysD l)) (hd : d.map (·.1) = ss) (hbase : base ≤ g) (hb : w2.heap[g]? = some (.cells cur 9 (0, 0))) (h1 : ss.length ≤ cap) (h2 : cap ≤ maxLen) (h3 : cur.size = cap * 1) :
    (sortWorld encT w2 g 0 n (d.toArray.toList.mergeSort fun x y => !(ltOf cmpT) y x).toArray os).ownsRow base 9 1 (.slice (some ⟨g, 0, none⟩) ss.length cap) l.length ((l.map (·.1)).map Value.string) ∧
    w2.grownBy (sortWorld encT w2 g 0 n (d.toArray.toList.mergeSort fun x y => !(ltOf cmpT) y x).toArray os) (some g) := by
  have e : ((d.toArray.toList.mergeSort fun x y => !(ltOf cmpT) y x).toArray.map (·.1)) = (keysD l).toArray := by
    rw [List.map_toArray]
    congr 1
    exact sort_live hs (by rw [hd]; exact hp)
  unfold sortWorld
  rw [putRowT, e]
  have hl : l.length = ss.length := by rw [hp.length_eq]; unfold keysD; simp
  have hk : (l.map (·.1)).map Value.string = (keysD l).map encStr := by unfold keysD; rw [List.map_map, List.map_map]; rfl
  rw [hk]
  refine ⟨?_, grownBy_sorted _⟩
  have := ownsRow_sorted (ss := ss) (ts := keysD l) (os := os) (n := n) hp.length_eq.symm hbase hb h1 h2 h3
  rw [hl]
  exact this

set_option maxHeartbeats 2000000 in
set_option maxRecDepth 100000 in
theorem sortedFunc_any {b n : Nat} {D : DataW Value} {l : Nodes} {w : World} (hown : w.ownsMap Tryz.prog 9 RN b n D) (hp : (keysD l).Perm (strKeys D)) (hsz : Maps.size D = l.length) (hs : Sorted l) (hk : ∀ x ∈ l, x.1.size ≤ 160) (hl : l.length ≤ 1048576) :
    Calls Tryz.prog 90 #[.func (.func 155) #[] #[.pointer (some ⟨w.heap.size, 0, none⟩)], .func (.func 31) #[] #[]] (w.alloc (.cells #[.map (some b)] 142)) fun e w' =>
      ∃ v, e = .returned v ∧ w'.ownsRow w.heap.size 9 1 v l.length ((l.map (·.1)).map Value.string) ∧ Ext w w' := by
  have HC := Lib.hid (collect_calls hown (by omega))
  have SN := fun p cap fv w => Lib.hid (Tryz.slices_SortFunc_none (α := Txt160) p cap fv w)
  have SS := fun blk cap (d : Array Txt160) w hH hblk hsz => Lib.hid (Tryz.slices_SortFunc_total encT (fun _ => rfl) cmpT swoT 31 #[] blk 0 cap d w enters_cmp
    (CmpReads.lays fun m os dk _ x y => (cmp_draws (bsL x.1) (bsL y.1) _ (by have := x.2; unfold bsL maxLen; rw [size_mk]; simp; omega) (by have := y.2; unfold bsL maxLen; rw [size_mk]; simp; omega)).mono fun _ _ ⟨he, hw⟩ => ⟨by rw [he, bsL_toList, bsL_toList]; rfl, hw⟩) hH hblk hsz totT)
  clear hown
  go_enter Tryz.func90, Tryz.ntmps90
  go_wp2_with fail
  refine HC.out.mono ?_
  rintro e w2 ⟨v, ss, rfl, hss, hrow, x2⟩
  have hpk : ss.Perm (keysD l) := hss.trans hp.symm
  have hlen : ss.length = l.length := by rw [hpk.length_eq]; unfold keysD; simp
  have hall : ∀ k ∈ ss, k.length ≤ 160 := fun k hk' => by
    obtain ⟨x, hx, rfl⟩ := List.mem_map.1 (hpk.mem_iff.1 hk')
    have := hk x hx
    rw [← Lib.toList_data, len_toList]; exact this
  obtain ⟨d, hd⟩ : ∃ d : List Txt160, d.map (·.1) = ss := ⟨ss.pmap (fun k h => ⟨k, h⟩) hall, by rw [List.map_pmap]; simp⟩
  have HX2 := Lib.hid x2
  rcases hrow.2 with ⟨rfl, hnil⟩ | ⟨g, cap, cur, rfl, hbase, hb, h1, h2, h3, h4⟩
  · have h0 : ss = [] := by simpa using hnil
    have hl0 : l = [] := by rw [h0] at hlen; exact List.length_eq_zero_iff.1 (by simpa using hlen.symm)
    subst hl0
    clear hrow hnil hpk hss hp hd x2 HC SS
    go_wp2_with fail
    refine (SN _ _ _ _).out.mono ?_
    rintro e w3 ⟨rfl, hw3⟩
    obtain rfl := hw3.symm
    clear hw3
    go_wp2_with fail
    go_ret
    exact ⟨_, rfl, World.ownsRow_nil _ _ _ _, HX2.out⟩
  · have hdl : d.length = ss.length := by rw [← hd]; simp
    have hH : Holds encT w2 g 0 d.toArray := by
      have h0 := holds_of_block (ss := ss) hb (by simpa using h4)
      intro j hj
      have hj' : j < d.length := by simpa using hj
      obtain ⟨q1, q2⟩ := h0 j (by simpa using (by omega : j < ss.length))
      refine ⟨q1.trans ?_, q2⟩
      rw [getElem!_pos ss.toArray j (by simpa using (by omega : j < ss.length)), getElem!_pos d.toArray j hj]
      simp only [List.getElem_toArray]
      subst hd
      rw [List.getElem_map]
      rfl
    have hgl : g < w2.heap.size := ltB hb
    have HS := Lib.hid (SS g cap d.toArray w2 hH hgl (by simp; omega)).out
    have hda : d.toArray.size = ss.length := by simpa using hdl
    rw [hda] at HS
    have HEnd := fun n os => Lib.hid (paths_end (n := n) (os := os) hs hpk hd (Nat.le_of_succ_le hbase) hb h1 h2 h3)
    clear hrow hpk hss hp hd x2 HC SN SS hH h4 hb h3 hall hda hlen hdl h1 h2 hs hk hsz hl
    go_wp2_with fail
    refine HS.out.mono ?_
    rintro e w3 ⟨rfl, n3, os3, rfl⟩
    have HE3 := HEnd n3 os3
    clear HEnd HS
    go_wp2_with fail
    go_ret
    exact ⟨_, rfl, HE3.out.1, Below.grown HX2.out HE3.out.2 HX2.out.size (fun j hj => by cases hj; omega)⟩

/-- What Paths hands back. -/
def PathsPost (w : World) (l : Nodes) (e : Ending) (w' : World) : Prop := ∃ v, e = .returned v ∧ w'.ownsRow w.heap.size 9 1 v l.length ((l.map (·.1)).map Value.string) ∧ Ext w w'
set_option maxHeartbeats 2000000 in
set_option maxRecDepth 100000 in
theorem Paths_any {w : World} {d : Nat} {M I : List Nat} {D : Dk} (h : DkAt w d M I D) (O : DkOk D) :
    Calls Tryz.prog 28 #[.pointer (some ⟨d, 0, none⟩)] w (PathsPost w D.live) := by
  obtain ⟨lt, lm, st, sm, lg, vs, h, hM⟩ := h
  have c0 : w.cell? ⟨d, 0, none⟩ = some (.pointer (some ⟨lt, 0, none⟩)) := cellB h.blk
  have c1 : w.cell? ⟨lt, 0, none⟩ = some (.map (some lm)) := cellB h.live.blk
  have H1 := Lib.hid (dis_any d _ w c0)
  have H2 := Lib.hid (keys_calls (some lm) w)
  obtain ⟨hnd, _, Dm, hown, hread⟩ := h.live.map
  have hu := O.live.used
  have hr2 := O.r2
  have hlen := len_used D.live
  have H3 := Lib.hid (sortedFunc_any hown (strKeys_of hown hnd fun s => (hread s).1) (size_of hown hnd fun s => (hread s).1) O.live.sorted (fun x hx => mayB_size (O.live.may x hx)) (by omega))
  clear h hM hnd hown hread O hu hr2 hlen
  generalize D.live = l at *
  go_enter Tryz.func28, Tryz.ntmps28
  go_wp2_with fail
  refine H1.out.mono ?_
  rintro e w1 ⟨rfl, hw1⟩
  obtain rfl := hw1.symm
  clear hw1
  go_wp2_with fail
  refine H2.out.mono ?_
  rintro e w2 ⟨rfl, hw2⟩
  obtain rfl := hw2.symm
  clear hw2
  go_wp2_with fail
  refine H3.out.mono ?_
  rintro e w3 ⟨v, rfl, h3, x3⟩
  have HF := Lib.hid (And.intro h3 x3)
  clear h3 x3
  go_wp2_with fail
  go_ret
  exact ⟨v, rfl, HF.out⟩
end Go.Proofs.YtldppmjjgljinaaGreatDoor

namespace Go.Proofs.YtldppmjjgljinaaGreatDoor
open Go.RowKit

theorem cloneLog_any (lg : Value) (n : Nat) (vs : List Value) (w : World) (h : w.ownsRow 0 150 1 lg n vs) (hn : n ≤ 1073741824) (h1 : ∀ u ∈ vs, u.oneCell' = true) :
    Calls Tryz.prog 95 #[lg] w fun e w' => ∃ a cap, e = .returned (.slice a n cap) ∧ w'.ownsRow w.heap.size 150 1 (.slice a n cap) n vs ∧ Ext w w' := by
  have hl := h.1
  rcases h.2 with ⟨rfl, rfl⟩ | ⟨g, cap, cur, rfl, hb, hh, k1, k2, k3, k4⟩
  · obtain rfl : vs = [] := List.length_eq_zero_iff.1 (by simpa using hl)
    exact (AnyE.slices_Clone_nil Tryz.cloneEffects 0 0 w).mono fun _ _ ⟨he, hw⟩ => ⟨none, 0, he, hw ▸ World.ownsRow_nil _ _ _ _, hw ▸ Ext.refl w⟩
  · obtain ⟨i0, hi, hz0, hz1, hz2⟩ := info_parts el_effect.info
    refine (AnyE.slices_Clone Tryz.cloneEffects i0 .nilFunc 1 8 hi hz0 hz1 hz2 rfl (by decide) (fun w => by kernel_rfl) g 0 n cap vs w (by omega) (by unfold maxLen; omega) (by omega) (fun j u hj => ?_) h1).mono ?_
    · have := h.cells (g := g) rfl j u hj
      rwa [append_kw.add_off] at this
    · rintro e w' ⟨v', he, ho, hne, hx⟩
      rcases ho.2 with ⟨hv, _⟩ | ⟨g', cap', cur', hv, _⟩
      · exact absurd hv hne
      · subst hv
        exact ⟨_, _, he, ho, hx⟩
theorem copy_end {w W1 w2 w3 w4 : World} {d lt lm st sm : Nat} {lg : Value} {vs : List Value} {I : List Nat} {D : Dk} {a : Option Addr} {cap : Nat} (h : DkIn w d lt lm st sm lg vs I D)
    (hW : W1 = w.alloc (.cells #[.pointer (some ⟨lt, 0, none⟩), .pointer (some ⟨st, 0, none⟩), lg, .bool D.fused, .int .i64 D.left] 109 (0, 0))) (t2 : TreeAt w2 (W1.heap.size + 1) W1.heap.size D.live D.room) (x2 : Ext W1 w2)
    (t3 : TreeAt w3 (w2.heap.size + 1) w2.heap.size D.lasts D.room) (x3 : Ext w2 w3) (ho : w4.ownsRow w3.heap.size 150 1 (.slice a D.log.length cap) D.log.length vs) (x4 : Ext w3 w4) :
    ∃ M', DkAt (((w4.setCell ⟨w.heap.size, 0, none⟩ (.pointer (some ⟨W1.heap.size + 1, 0, none⟩))).setCell ⟨w.heap.size, 1, none⟩ (.pointer (some ⟨w2.heap.size + 1, 0, none⟩))).setCell ⟨w.heap.size, 2, none⟩ (.slice a D.log.length cap)) w.heap.size M' I D ∧
      Ext w (((w4.setCell ⟨w.heap.size, 0, none⟩ (.pointer (some ⟨W1.heap.size + 1, 0, none⟩))).setCell ⟨w.heap.size, 1, none⟩ (.pointer (some ⟨w2.heap.size + 1, 0, none⟩))).setCell ⟨w.heap.size, 2, none⟩ (.slice a D.log.length cap)) ∧ ∀ b ∈ M', w.heap.size ≤ b := by
  have hs1 : W1.heap.size = w.heap.size + 1 := by rw [hW, size_alloc]
  have x1 : Ext w W1 := hW ▸ (Ext.refl w).alloc _
  have b1 : W1.heap[w.heap.size]? = some (.cells #[.pointer (some ⟨lt, 0, none⟩), .pointer (some ⟨st, 0, none⟩), lg, .bool D.fused, .int .i64 D.left] 109 (0, 0)) := hW ▸ block_alloc_new _ _
  have x24 : Ext W1 w4 := (x2.trans x3).trans x4
  have b4 := (x24.block (by omega)).trans b1
  have s2 := x2.size
  have s3 := x3.size
  have s4 := x4.size
  have l2 := lt_of_tree t2
  have l3 := lt_of_tree t3
  have hge := own_ge ho
  have keyN : ∀ b, b ≠ w.heap.size → (((w4.setCell ⟨w.heap.size, 0, none⟩ (.pointer (some ⟨W1.heap.size + 1, 0, none⟩))).setCell ⟨w.heap.size, 1, none⟩ (.pointer (some ⟨w2.heap.size + 1, 0, none⟩))).setCell ⟨w.heap.size, 2, none⟩ (.slice a D.log.length cap)).heap[b]? = w4.heap[b]? := fun b hb => ((setCellO hb).trans (setCellO hb)).trans (setCellO hb)
  have xN : Ext w (((w4.setCell ⟨w.heap.size, 0, none⟩ (.pointer (some ⟨W1.heap.size + 1, 0, none⟩))).setCell ⟨w.heap.size, 1, none⟩ (.pointer (some ⟨w2.heap.size + 1, 0, none⟩))).setCell ⟨w.heap.size, 2, none⟩ (.slice a D.log.length cap)) :=
    (((x1.trans x24).setCell (Nat.le_refl _) _).setCell (Nat.le_refl _) _).setCell (Nat.le_refl _) _
  have hn : ∀ b ∈ [w.heap.size, W1.heap.size + 1, W1.heap.size, w2.heap.size + 1, w2.heap.size], w.heap.size ≤ b ∧ b < w3.heap.size := fun b hb => by
    simp only [List.mem_cons, List.not_mem_nil, or_false] at hb
    omega
  refine ⟨[w.heap.size, W1.heap.size + 1, W1.heap.size, w2.heap.size + 1, w2.heap.size] ++ rowB (.slice a D.log.length cap), ⟨W1.heap.size + 1, W1.heap.size, w2.heap.size + 1, w2.heap.size, .slice a D.log.length cap, vs, ⟨?_, ?_, ?_, ?_, fun k v y h1 h2 => ?_, ?_, fun b hb hm => ?_, fun b hb => ?_⟩, rfl⟩, xN, fun b hb => ?_⟩
  · rw [setCellB (setCellB (setCellB b4))]; rfl
  · exact (t2.ext (x3.trans x4)).kept (keyN _ (by omega)) (keyN _ (by omega))
  · exact (t3.ext x4).kept (keyN _ (by omega)) (keyN _ (by omega))
  · exact owns_base (owns_blocks ho fun b hb => keyN b (by have := hge b hb; omega)) (Nat.zero_le _)
  · obtain ⟨h3, h4⟩ := h.effs k v y h1 h2
    exact ⟨h3.turn (fun _ hb => hb) fun b hb hl => xN.block hl, h4⟩
  · simp only [List.nodup_cons, List.mem_cons, List.not_mem_nil, not_or, or_false, not_false_eq_true, List.nodup_nil, and_true]
    omega
  · have := (hn b hm).2
    have := hge b hb
    omega
  · have hb2 := (h.imm b hb).2.2
    refine ⟨fun hm => by have := (hn b hm).1; omega, fun e => by have := hge b e; omega, Nat.lt_of_lt_of_le hb2 xN.size⟩
  · rcases List.mem_append.1 hb with hb | hb
    · exact (hn b hb).1
    · have := hge b (mem_rowB.1 hb); omega

set_option maxRecDepth 100000 in
set_option maxHeartbeats 4000000 in
theorem Copy_any {w : World} {d : Nat} {M I : List Nat} {D : Dk} (h : DkAt w d M I D) (O : DkFit D) :
    Calls Tryz.prog 38 #[.pointer (some ⟨d, 0, none⟩)] w fun e w' => ∃ c M', e = .returned (.pointer (some ⟨c, 0, none⟩)) ∧ DkAt w' c M' I D ∧ Ext w w' ∧ ∀ b ∈ M', w.heap.size ≤ b := by
  obtain ⟨lt, lm, st, sm, lg, vs, h, hM⟩ := h
  have hb := h.blk
  have hdl := ltB hb
  have c0 : w.cell? ⟨d, 0, none⟩ = some (.pointer (some ⟨lt, 0, none⟩)) := cellB hb
  have c1 : w.cell? ⟨d, 1, none⟩ = some (.pointer (some ⟨st, 0, none⟩)) := cellB hb
  obtain ⟨ad, cp, hlg⟩ : ∃ ad cap, lg = .slice ad D.log.length cap := by
    rcases h.log.2 with ⟨h1, h2⟩ | ⟨g, cap, cur, h1, _⟩
    · exact ⟨none, 0, by rw [h1, h2]⟩
    · exact ⟨_, cap, h1⟩
  subst hlg
  have c2 : w.cell? ⟨d, 2, none⟩ = some (.slice ad D.log.length cp) := cellB hb
  have c3 : w.cell? ⟨d, 3, none⟩ = some (.bool D.fused) := cellB hb
  have c4 : w.cell? ⟨d, 4, none⟩ = some (.int .i64 D.left) := cellB hb
  have H1 := Lib.hid (dis_any d _ w c0)
  obtain ⟨W1, hW1⟩ : ∃ W1, W1 = w.alloc (.cells #[.pointer (some ⟨lt, 0, none⟩), .pointer (some ⟨st, 0, none⟩), .slice ad D.log.length cp, .bool D.fused, .int .i64 D.left] 109 (0, 0)) := ⟨_, rfl⟩
  have x1 : Ext w W1.drew := (hW1 ▸ (Ext.refl w).alloc _ : Ext w W1).drew
  have HS := Lib.hid (show ∀ w', Ext W1.drew w' → w'.cell? ⟨d, 0, none⟩ = some (.pointer (some ⟨lt, 0, none⟩)) ∧ w'.cell? ⟨d, 1, none⟩ = some (.pointer (some ⟨st, 0, none⟩)) ∧ w'.cell? ⟨d, 2, none⟩ = some (.slice ad D.log.length cp) from fun w' x => by
    have hb' := ((x1.trans x).block hdl).trans hb
    exact ⟨cellB hb', cellB hb', cellB hb'⟩)
  have HC1 := Lib.hid (dclone_any lt lm D.live D.room W1.drew (h.live.ext x1))
  have HC2 := fun w' (x : Ext W1.drew w') => Lib.hid (dclone_any st sm D.lasts D.room w' (h.lasts.ext (x1.trans x)))
  have HC3 := fun w' (x : Ext W1.drew w') => Lib.hid (cloneLog_any (.slice ad D.log.length cp) D.log.length vs w' (owns_ext h.log (x1.trans x)) O.len fun u hu => by
    obtain ⟨k, hk1, hk2⟩ := List.getElem_of_mem hu
    have hlen : vs.length = D.log.length := by have := h.log.1; omega
    obtain ⟨y, hy⟩ : ∃ y, D.log[k]? = some y := ⟨_, List.getElem?_eq_getElem (by omega)⟩
    obtain ⟨F, cap, hv⟩ := eff_shape (h.effs k u y (by rw [← hk2]; exact List.getElem?_eq_getElem hk1) hy).1
    rw [hv]; rfl)
  have HX := Lib.hid (fun w' (x : Ext W1.drew w') => x)
  have HEnd := fun (w2 w3 w4 : World) (a : Option Addr) (cap : Nat) t2 (x2 : Ext W1.drew w2) t3 x3 ho x4 => Lib.hid (copy_end (w2 := w2) (w3 := w3) (w4 := w4) (a := a) (cap := cap) h hW1 t2 (Ext.trans (Ext.refl W1).drew x2) t3 x3 ho x4)
  have HB := Lib.hid (show ∀ w', Ext W1.drew w' → w'.heap[w.heap.size]? = some (.cells #[.pointer (some ⟨lt, 0, none⟩), .pointer (some ⟨st, 0, none⟩), .slice ad D.log.length cp, .bool D.fused, .int .i64 D.left] 109 (0, 0)) from fun w' x => by
    have hb1 : W1.drew.heap[w.heap.size]? = some (.cells #[.pointer (some ⟨lt, 0, none⟩), .pointer (some ⟨st, 0, none⟩), .slice ad D.log.length cp, .bool D.fused, .int .i64 D.left] 109 (0, 0)) := by rw [hW1]; exact block_alloc_new _ _
    exact (x.block (ltB hb1)).trans hb1)
  have hne : d ≠ w.heap.size := by omega
  have hne2 : w.heap.size ≠ d := by omega
  have hs1 : W1.drew.heap.size = w.heap.size + 1 := by show W1.heap.size = _; rw [hW1, size_alloc]
  have hs2 : W1.heap.size = w.heap.size + 1 := hs1
  rw [hs1] at HC1
  rw [hs2] at HEnd
  clear h hM hb x1 O hs1 hs2
  generalize D.log.length = n at *
  subst hW1
  go_enter Tryz.func38, Tryz.ntmps38
  go_wp2_with fail
  refine H1.out.mono ?_
  rintro e w1 ⟨rfl, hw1⟩
  obtain rfl := hw1.symm
  clear hw1
  go_wp2_with fail
  go_region_held (fun w' => w'.cell? ⟨d, 0, none⟩ = some (.pointer (some ⟨lt, 0, none⟩)) ∧ w'.cell? ⟨d, 1, none⟩ = some (.pointer (some ⟨st, 0, none⟩)) ∧ w'.cell? ⟨d, 2, none⟩ = some (.slice ad n cp)) (first | go_keep | exact HS.out _ (by assumption)) (first
    | (go_at_call_of 94 (Value.pointer (some ⟨lt, 0, none⟩)); refine HC1.out.mono ?_; rintro e w2 ⟨rfl, t2, x2⟩)
    | (go_at_call_of 94 (Value.pointer (some ⟨st, 0, none⟩)); refine (HC2 _ (by assumption)).out.mono ?_; rintro e w3 ⟨rfl, t3, x3⟩; have x3' := HX.out _ (Ext.trans (by assumption) x3))
    | (go_at_call 95; refine (HC3 _ (by assumption)).out.mono ?_; rintro e w4 ⟨a4, cap4, rfl, ho, x4⟩; have x4' := HX.out _ (Ext.trans (by assumption) x4); have hb4 := HB.out _ x4'; have k0 := cellB (k := 0) hb4; have k1 := cellB (k := 1) hb4; have k2 := cellB (k := 2) hb4; have kf := fun k => frozenB (k := k) hb4; have HF := HEnd _ _ _ a4 cap4 (by assumption) (by assumption) (by assumption) (by assumption) ho x4; clear hb4))
  go_wp2_with fail
  go_ret
  obtain ⟨M', q1, q2, q3⟩ := HF.out
  exact ⟨_, M', rfl, q1, q2, q3⟩
end Go.Proofs.YtldppmjjgljinaaGreatDoor

namespace Go.Proofs.YtldppmjjgljinaaGreatDoor
open Go.RowKit

/-- A slice of bytes that is none of a disk's own. -/
def PicksAt (w : World) (M : List Nat) (v : Value) (ks : List UInt8) : Prop :=
  ∃ a cap, v = .slice a ks.length cap ∧ ks.length ≤ 4611686018427387904 ∧ ∀ (k : Nat) u, ks[k]? = some u → ∃ g o, a = some ⟨g, o, none⟩ ∧ g ∉ M ∧ w.cell? ⟨g, o + k, none⟩ = some (.int .u8 u.toNat)

theorem crash_end {w wr w5 : World} {d lt lm st sm : Nat} {lg : Value} {vs : List Value} {I : List Nat} {D : Dk} {l : Nodes} {ks : List UInt8} (h : DkIn w d lt lm st sm lg vs I D) (T : TreeAt wr st sm l D.room) (c : Chg [st, sm] w wr) (t5 : TreeAt w5 (wr.heap.size + 1) wr.heap.size l D.room) (x5 : Ext wr w5)
    (hl : l = crashL D.room D.lasts D.log ks) :
    ActPost w d ([d, lt, lm, st, sm] ++ rowB lg) I (0, D.crash ks) (.returned (.int .i64 0)) (((w5.setCell ⟨d, 0, none⟩ (.pointer (some ⟨wr.heap.size + 1, 0, none⟩))).setCell ⟨d, 2, none⟩ (.slice none 0 0)).setCell ⟨d, 3, none⟩ (.bool false)) := by
  subst hl
  have hnd := h.nd
  simp only [List.nodup_cons, List.mem_cons, List.not_mem_nil, not_or, or_false] at hnd
  obtain ⟨⟨n1, n2, n3, n4⟩, ⟨n9, n5, n6⟩, ⟨n7, n8⟩, n10, _⟩ := hnd
  have hdl := ltB h.blk
  have hs := c.size
  have hs5 := x5.size
  have lT := lt_of_tree T
  have b5 : w5.heap[d]? = some (.cells #[.pointer (some ⟨lt, 0, none⟩), .pointer (some ⟨st, 0, none⟩), lg, .bool D.fused, .int .i64 D.left] 109 (0, 0)) :=
    (x5.block (by omega)).trans ((c.block d hdl (by simp [n3, n4])).trans h.blk)
  have keyN : ∀ b, b ≠ d → (((w5.setCell ⟨d, 0, none⟩ (.pointer (some ⟨wr.heap.size + 1, 0, none⟩))).setCell ⟨d, 2, none⟩ (.slice none 0 0)).setCell ⟨d, 3, none⟩ (.bool false)).heap[b]? = w5.heap[b]? := fun b hb => ((setCellO hb).trans (setCellO hb)).trans (setCellO hb)
  refine ⟨rfl, [d, wr.heap.size + 1, wr.heap.size, st, sm] ++ rowB (.slice none 0 0), I, ⟨wr.heap.size + 1, wr.heap.size, st, sm, .slice none 0 0, [], ⟨?_, ?_, ?_, World.ownsRow_nil _ _ _ _, fun k v y h1 h2 => (by simp at h1), ?_, fun b hb => (by simp [Value.ownBlock] at hb), fun b hb => ?_⟩, rfl⟩, ⟨?_, fun b hb => ?_, Sub.refl _ _⟩⟩
  · rw [setCellB (setCellB (setCellB b5))]; rfl
  · exact t5.kept (keyN _ (by omega)) (keyN _ (by omega))
  · exact (T.ext x5).kept (keyN st (Ne.symm n3)) (keyN sm (Ne.symm n4))
  · simp only [List.nodup_cons, List.mem_cons, List.not_mem_nil, not_or, or_false, not_false_eq_true, List.nodup_nil, and_true]
    omega
  · have hi := h.imm b hb
    have hb2 := hi.2.2
    simp only [List.mem_cons, List.not_mem_nil, not_or, or_false] at hi
    refine ⟨by simp only [List.mem_cons, List.not_mem_nil, not_or, or_false]; exact ⟨hi.1.1, by omega, by omega, hi.1.2.2.2.1, hi.1.2.2.2.2⟩, by simp [Value.ownBlock], by simp; omega⟩
  · have c1 : Chg ([d, lt, lm, st, sm] ++ rowB lg) w w5 := (c.mono fun b hb => by simp at hb; rcases hb with rfl | rfl <;> simp).trans_ext x5
    have c2 := c1.trans (Chg.setCell (F := [d]) w5 ⟨d, 0, none⟩ (.pointer (some ⟨wr.heap.size + 1, 0, none⟩)) (by simp)) fun b hb => .inl (by simp at hb; simp [hb])
    have c3 := c2.trans (Chg.setCell (F := [d]) _ ⟨d, 2, none⟩ (.slice none 0 0) (by simp)) fun b hb => .inl (by simp at hb; simp [hb])
    exact c3.trans (Chg.setCell (F := [d]) _ ⟨d, 3, none⟩ (.bool false) (by simp)) fun b hb => .inl (by simp at hb; simp [hb])
  · rcases List.mem_append.1 hb with hb | hb
    · simp only [List.mem_cons, List.not_mem_nil, or_false] at hb
      rcases hb with rfl | rfl | rfl | rfl | rfl
      · exact .inl (by simp)
      · exact .inr (by omega)
      · exact .inr hs
      · exact .inl (by simp)
      · exact .inl (by simp)
    · have := mem_rowB.1 hb
      simp [Value.ownBlock] at this
/-- Behind k rounds. -/
def CrAt (w : World) (st sm : Nat) (D : Dk) (ks : List UInt8) (k : Nat) (wr : World) : Prop := TreeAt wr st sm (crashL D.room D.lasts (D.log.take k) (ks.take k)) D.room ∧ Chg [st, sm] w wr

set_option maxRecDepth 100000 in
set_option maxHeartbeats 8000000 in
theorem Crash_any {w0 w : World} {d : Nat} {M I : List Nat} {D : Dk} (h : DkAt w d M I D) (O : DkFit D) (E : Env w0) (x0 : Ext w0 w) (hM0 : ∀ b ∈ M, w0.heap.size ≤ b) (pv : Value) (ks : List UInt8) (hp : PicksAt w M pv ks) :
    Calls Tryz.prog 35 #[.pointer (some ⟨d, 0, none⟩), pv] w (ActPost w d M I (0, D.crash ks)) := by
  obtain ⟨lt, lm, st, sm, lg, vs, h, hM⟩ := h
  obtain ⟨pa, pc, rfl, hkl, hpc⟩ := hp
  have hb := h.blk
  have hdl := ltB hb
  have c0 : w.cell? ⟨d, 0, none⟩ = some (.pointer (some ⟨lt, 0, none⟩)) := cellB hb
  obtain ⟨ad, cp, hlg⟩ : ∃ ad cap, lg = .slice ad D.log.length cap := by
    rcases h.log.2 with ⟨h1, h2⟩ | ⟨g, cap, cur, h1, _⟩
    · exact ⟨none, 0, by rw [h1, h2]⟩
    · exact ⟨_, cap, h1⟩
  subst hlg
  have c2 : w.cell? ⟨d, 2, none⟩ = some (.slice ad D.log.length cp) := cellB hb
  have H1 := Lib.hid (dis_any d _ w c0)
  have hlen := O.len
  have HI := Lib.hid h
  have HM := Lib.hid hM
  have HO := Lib.hid O
  have HPC := Lib.hid hpc
  have hnd := h.nd
  simp only [List.nodup_cons, List.mem_cons, List.not_mem_nil, not_or, or_false] at hnd
  have hdst : d ≠ st := hnd.1.2.2.1
  have hdsm : d ≠ sm := hnd.1.2.2.2
  have HLow := Lib.hid (show ∀ b ∈ [st, sm], w0.heap.size ≤ b from fun b hb => hM0 b (by rw [hM]; simp at hb; rcases hb with rfl | rfl <;> simp))
  have HE := Lib.hid E
  have HX0 := Lib.hid x0
  have H0 := Lib.hid (show CrAt w st sm D ks 0 w from ⟨by simp only [List.take_zero, crashL]; exact h.lasts, Chg.refl _ _⟩)
  have HLg := Lib.hid (show ∀ (k : Nat) v, vs[k]? = some v → ∃ g, ad = some ⟨g, 0, none⟩ ∧ g ∉ [st, sm] ∧ w.cell? ⟨g, k, none⟩ = some v from fun k v hv => by
    rcases h.log.2 with ⟨h1, h2⟩ | ⟨g, cap, cur, h1, hrest⟩
    · have := h.log.1
      have hk := (List.getElem?_eq_some_iff.1 hv).1
      omega
    · cases h1
      have hc := h.log.cells (g := g) rfl k v hv
      rw [append_kw.add_off, Nat.zero_add] at hc
      refine ⟨g, rfl, fun hm => h.lgne g rfl (by simp at hm; rcases hm with rfl | rfl <;> simp), hc⟩)
  have HNM := Lib.hid (show ∀ g, g ∉ M → g ∉ [st, sm] from fun g hg hm => hg (by rw [hM]; simp at hm; rcases hm with rfl | rfl <;> simp))
  have hvl : vs.length = D.log.length := by have := h.log.1; omega
  clear h hM hb O E x0 hM0 hpc hnd
  go_enter Tryz.func35, Tryz.ntmps35
  go_wp2_with fail
  refine H1.out.mono ?_
  rintro e w1 ⟨rfl, hw1⟩
  obtain rfl := hw1.symm
  clear hw1
  go_wp2_with fail
  go_loopw [15] (fun iv wr => Hid (∃ k : Nat, k ≤ D.log.length ∧ iv = .int .i64 k ∧ CrAt w st sm D ks k wr)) (fun iv _ => D.log.length - (intOf iv).toNat)
  case atStart => exact ⟨0, Nat.zero_le _, rfl, H0.out⟩
  case round =>
    obtain ⟨k, hk, rfl, hT, hC⟩ := hrel.out
    clear hrel H0
    by_cases hlt : k < D.log.length
    · obtain ⟨x, hx⟩ : ∃ x, D.log[k]? = some x := ⟨_, List.getElem?_eq_getElem hlt⟩
      obtain ⟨v, hv⟩ : ∃ v, vs[k]? = some v := ⟨_, List.getElem?_eq_getElem (by omega)⟩
      obtain ⟨hea, hf⟩ := HI.out.effs k v x hv hx
      obtain ⟨F, cap, rfl⟩ := eff_shape hea
      obtain ⟨g, rfl, hgn, hgc⟩ := HLg.out k _ hv
      have cg : wr.cell? ⟨g, k, none⟩ = some (.func (.func F) #[] cap) := (hC.cell (lt_of_cell hgc) hgn).trans hgc
      by_cases hkp : k < ks.length
      · obtain ⟨u, hu⟩ : ∃ u, ks[k]? = some u := ⟨_, List.getElem?_eq_getElem hkp⟩
        obtain ⟨gp, op, rfl, hpn, hpc⟩ := HPC.out k u hu
        have cpk : wr.cell? ⟨gp, op + k, none⟩ = some (.int .u8 u.toNat) := (hC.cell (lt_of_cell hpc) (HNM.out gp hpn)).trans hpc
        have HSt := Lib.hid (crashL_step (room := D.room) k D.log ks D.lasts x u hx hu)
        by_cases hu0 : u.toNat = 0
        · have HN := Lib.hid (show CrAt w st sm D ks (k + 1) wr from ⟨by rw [HSt.out, show pickE D.room _ x u.toNat = _ from if_pos hu0]; exact hT, hC⟩)
          rw [hu0] at cpk
          clear hT hC hx hv hea hgc hpc hu
          go_wp2_with fail
          go_roundw
          case rel => exact ⟨k + 1, by omega, by go_num, HN.out⟩
          case measure => simp [intOf]; omega
        · have hxw : Ext w0 wr := hC.ext HX0.out HLow.out
          have hea' := hea.turn (fun _ hb => hb) (w' := wr) fun b hb hl => hC.block b hl fun hm => (HI.out.imm b hb).1 (by simp at hm; rcases hm with rfl | rfl <;> simp)
          have hbd := (hC.block d hdl (by simp [hdst, hdsm])).trans HI.out.blk
          have cd1 : wr.cell? ⟨d, 1, none⟩ = some (.pointer (some ⟨st, 0, none⟩)) := cellB hbd
          have hTk : TreeOk (crashL D.room D.lasts (D.log.take k) (ks.take k)) D.room := crashL_ok HO.out.ok.lasts fun y hy => HO.out.ok.log y (List.mem_of_mem_take hy)
          have hxo := HO.out.ok.log x (List.mem_of_getElem? hx)
          have hr2 := HO.out.ok.r2
          have HCr := Lib.hid hC
          by_cases hu1 : u.toNat = 1
          · have HP := Lib.hid (show pickE D.room (crashL D.room D.lasts (D.log.take k) (ks.take k)) x u.toNat = (effE (crashL D.room D.lasts (D.log.take k) (ks.take k)) D.room full x).2 from by unfold pickE; rw [if_neg hu0, if_pos hu1])
            obtain ⟨hen, hcall⟩ := eff_calls hea' hxo hf (Ready.mk (HE.out.ext hxw) hT hTk hr2) (most := full) (by decide)
            have hen : ∀ args W, (callFunc F args).run Tryz.prog W = .ok (.enter F args) W := hen
            have HCall := Lib.hid hcall
            rw [hu1] at cpk
            clear hT hC hx hv hea hea' hgc hpc hu hxw hbd hTk hxo hcall
            go_wp2_with fail
            refine HCall.out.mono ?_
            rintro e w4 ⟨rfl, t4, x4⟩
            have HN := Lib.hid (show CrAt w st sm D ks (k + 1) w4 from ⟨by rw [HSt.out, HP.out]; exact t4, HCr.out.trans x4 (fun _ hx => .inl hx)⟩)
            clear t4 x4 HCall hen
            go_wp2_with fail
            go_roundw
            case rel => exact ⟨k + 1, by omega, by go_num, HN.out⟩
            case measure => simp [intOf]; omega
          · obtain ⟨m9, hm9⟩ : ∃ m9, u.toNat = m9 + 2 := ⟨u.toNat - 2, by omega⟩
            have hm255 : m9 ≤ 253 := by have := u.toNat_lt; omega
            have HP := Lib.hid (show pickE D.room (crashL D.room D.lasts (D.log.take k) (ks.take k)) x u.toNat = (effE (crashL D.room D.lasts (D.log.take k) (ks.take k)) D.room m9 x).2 from by unfold pickE; rw [if_neg hu0, if_neg hu1, hm9]; rfl)
            have hcalls := fun (y : After wr) => eff_calls (hea'.turn (fun _ hb => hb) (w' := y.v) fun b _ hl => y.x.block hl) hxo hf (Ready.mk (HE.out.ext (hxw.trans y.x)) (hT.ext y.x) hTk hr2) (most := m9) (by omega)
            have hen : ∀ args W, (callFunc F args).run Tryz.prog W = .ok (.enter F args) W := (hcalls ⟨wr, Ext.refl _⟩).1
            have HCall := fun y => Lib.hid (hcalls y).2
            rw [hm9] at cpk
            have cpk' : wr.cell? ⟨gp, op + k, none⟩ = some (.int .u8 ((m9 : Int) + 2)) := by rw [cpk]; simp
            have e0 : ((m9 : Int) + 2 == 0) = false := by rw [beq_eq_false_iff_ne]; omega
            have e1 : ((m9 : Int) + 2 == 1) = false := by rw [beq_eq_false_iff_ne]; omega
            have wr1 : IntKind.i64.wrap ((m9 : Int) + 2) = (m9 : Int) + 2 := IntWalk.i64_in _ (by omega)
            have wr2 : IntKind.i64.wrap ((m9 : Int) + 2 - 2) = (m9 : Int) := (IntWalk.i64_in _ (by omega)).trans (by omega)
            have wr3 : IntKind.i64.wrap (m9 : Int) = (m9 : Int) := IntWalk.i64_in _ (by omega)
            have a1 := After.cell cd1
            have a2 := After.cell cpk'
            clear hT hC hx hv hea hea' hgc hpc hu hxw hbd hTk hxo hcalls cpk hu0 hu1 hm9
            go_wp2_with fail
            refine wp_region_after_tail 11 (by kernel_rfl) (by kernel_rfl) ?_
            simp only [List.take_succ_cons, List.take_zero, List.drop_succ_cons, List.drop_zero]
            repeat (go_big_quiet_step (fail))
            refine wpQuiet_nil ?_
            rintro _ ⟨y, rfl⟩
            clear wr1 wr2 wr3
            go_wp2_with fail
            refine (HCall y).out.mono ?_
            rintro e w4 ⟨rfl, t4, x4⟩
            have HN := Lib.hid (show CrAt w st sm D ks (k + 1) w4 from ⟨by rw [HSt.out, HP.out]; exact t4, (HCr.out.trans_ext y.x).trans x4 (fun _ hx => .inl hx)⟩)
            clear t4 x4 HCall hen
            go_wp2_with fail
            go_roundw
            case rel => exact ⟨k + 1, by omega, by go_num, HN.out⟩
            case measure => simp [intOf]; omega
      · have HN := Lib.hid (show CrAt w st sm D ks (k + 1) wr from ⟨by rw [show crashL D.room D.lasts (D.log.take (k + 1)) (ks.take (k + 1)) = crashL D.room D.lasts (D.log.take k) (ks.take k) from (crashL_end _ _ _ _ (.inr (by omega))).trans (crashL_end _ _ _ _ (.inr (by omega))).symm]; exact hT, hC⟩)
        clear hT hC hx hv hea hgc
        go_wp2_with fail
        go_roundw
        case rel => exact ⟨k + 1, by omega, by go_num, HN.out⟩
        case measure => simp [intOf]; omega
    · obtain rfl : k = D.log.length := by omega
      have nlt : decide ((D.log.length : Int) < (D.log.length : Int)) = false := by simp
      have hbd := (hC.block d hdl (by simp [hdst, hdsm])).trans HI.out.blk
      have hdr : d < wr.heap.size := ltB hbd
      have cd1 : wr.cell? ⟨d, 1, none⟩ = some (.pointer (some ⟨st, 0, none⟩)) := cellB hbd
      have HC2 := Lib.hid (dclone_any st sm _ D.room wr hT)
      have HEq := Lib.hid (show crashL D.room D.lasts (D.log.take D.log.length) (ks.take D.log.length) = crashL D.room D.lasts D.log ks from crashL_end _ _ _ _ (.inl (Nat.le_refl _)))
      have HEnd := fun w5 t5 x5 => Lib.hid (crash_end (w5 := w5) HI.out hT hC t5 x5 HEq.out)
      have HBd := Lib.hid hbd
      clear hT hC hbd
      go_wp2_with fail
      refine HC2.out.mono ?_
      rintro e w5 ⟨rfl, t5, x5⟩
      have hb5 := (x5.block hdr).trans HBd.out
      have k0 : w5.cell? ⟨d, 0, none⟩ = some (.pointer (some ⟨lt, 0, none⟩)) := cellB hb5
      have k2 : w5.cell? ⟨d, 2, none⟩ = some (.slice ad D.log.length cp) := cellB hb5
      have k3 : w5.cell? ⟨d, 3, none⟩ = some (.bool D.fused) := cellB hb5
      have kf : ∀ j, w5.frozen? ⟨d, j, none⟩ = false := fun j => frozenB hb5
      have HF := HEnd w5 t5 x5
      clear t5 x5 HEnd hb5
      go_wp2_with fail
      go_ret
      rw [HM.out]
      exact HF.out
end Go.Proofs.YtldppmjjgljinaaGreatDoor
