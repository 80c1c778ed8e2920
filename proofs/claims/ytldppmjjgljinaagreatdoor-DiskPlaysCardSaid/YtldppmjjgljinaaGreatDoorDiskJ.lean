/- caravan/disk's List. -/
import Derived.Test.YtldppmjjgljinaaGreatDoorDiskI
namespace Go.Proofs.YtldppmjjgljinaaGreatDoor
open Go.RowKit
open Go.Sort (Holds)
open Go.Maps (has_true_of_atKey)

/-- The names of what lies in a directory, in the order of bytes. -/
def namesL (p : ByteArray) (ks : List (List UInt8)) : List (List UInt8) := (ks.filter fun k => decide (parentR (bsL k) = p)).map fun k => (baseR (bsL k)).data.toList
def listS (l : Nodes) (p : ByteArray) : List ByteArray := ((namesL p (keysD l)).mergeSort fun x y => decide (x ≤ y)).map bsL
/-- What List tells: an error, or names. -/
def listE (l : Nodes) (p : ByteArray) : List ByteArray × Int := if p.toList.isEmpty || mayB p then (if dirE l p = 0 then (listS l p, 0) else ([], dirE l p)) else ([], 10)

theorem names_snoc (p : ByteArray) (ks : List (List UInt8)) (k : List UInt8) : namesL p (ks ++ [k]) = namesL p ks ++ (if decide (parentR (bsL k) = p) then [(baseR (bsL k)).data.toList] else []) := by
  unfold namesL
  rw [List.filter_append, List.map_append, List.filter_cons]
  cases decide (parentR (bsL k) = p) <;> rfl
theorem names_len (p : ByteArray) (ks : List (List UInt8)) : (namesL p ks).length ≤ ks.length := by
  unfold namesL; rw [List.length_map]; exact List.length_filter_le _ _
theorem sort_names {l : Nodes} {p : ByteArray} {ss : List (List UInt8)} (h : ss.Perm (keysD l)) : ((namesL p ss).mergeSort fun x y => decide (x ≤ y)).map bsL = listS l p := by
  unfold listS
  rw [show ((namesL p ss).mergeSort fun x y => decide (x ≤ y)) = (namesL p (keysD l)).mergeSort fun x y => decide (x ≤ y) from mergeSort_of_perm ((h.filter _).map _)]
/-- While names are collected. -/
def NmAt (w0 wr : World) (m n : Nat) (D : DataW Value) (p : ByteArray) (v : Value) : Prop :=
  ∃ (left : Lit → Bool) (cnt : Nat) (ss : List (List UInt8)), wr.ranges Tryz.prog 9 RN m w0.heap.size n D left cnt ∧ ss.length + cnt ≤ Maps.size D ∧ wr.ownsRow w0.heap.size 9 1 v (namesL p ss).length ((namesL p ss).map encStr) ∧ Collected D left ss ∧ Ext w0 wr
theorem nm_skip {w0 w2 w3 : World} {m n : Nat} {D : DataW Value} {p : ByteArray} {v : Value} {left : Lit → Bool} {cnt : Nat} {ss : List (List UInt8)} {x : List UInt8} (hrg : w2.ranges Tryz.prog 9 RN m w0.heap.size n D left cnt) (x3 : Ext w2 w3) (hc : ss.length + cnt + 1 ≤ Maps.size D)
    (hrow : w2.ownsRow w0.heap.size 9 1 v (namesL p ss).length ((namesL p ss).map encStr)) (hC : Collected D left (ss ++ [x])) (hs : namesL p (ss ++ [x]) = namesL p ss) (hx0 : Ext w0 w2) : NmAt w0 w3 m n D p v :=
  ⟨left, cnt, ss ++ [x], hrg.kept x3.grownBy (by simp) (by simp), by simp; omega, by rw [hs]; exact owns_ext hrow x3, hC, hx0.trans x3⟩
theorem nm_add {w0 w2 w3 w4 : World} {o : Obj} {m n : Nat} {D : DataW Value} {p b : ByteArray} {v v' : Value} {left : Lit → Bool} {cnt : Nat} {ss : List (List UInt8)} {x : List UInt8} (hrg : w2.ranges Tryz.prog 9 RN m w0.heap.size n D left cnt) (x3 : Ext w2 w3) (hc : ss.length + cnt + 1 ≤ Maps.size D)
    (hrow : w3.ownsRow w0.heap.size 9 1 v (namesL p ss).length ((namesL p ss).map encStr)) (hown : w4.ownsRow w0.heap.size 9 1 v' ((namesL p ss).length + 1) ((namesL p ss).map encStr ++ [.string b])) (hg : (w3.alloc o).grownBy w4 v.ownBlock)
    (hC : Collected D left (ss ++ [x])) (hs : namesL p (ss ++ [x]) = namesL p ss ++ [b.data.toList]) (hx0 : Ext w0 w2) (hm : m < w0.heap.size) : NmAt w0 w4 m n D p v' ∧ w4.rangeLeft m w0.heap.size = cnt := by
  have h3 := hrg.kept x3.grownBy (by simp) (by simp)
  have hge := own_block_ge hrow
  have h4 := (h3.alloc o).kept hg (fun e => by have := hge _ e.symm; omega) (row_ne_iter hrow h3)
  have z0 := Below.grown ((hx0.trans x3).alloc o) hg ((hx0.trans x3).alloc o).size (fun j hj => hge j hj)
  refine ⟨⟨left, cnt, ss ++ [x], h4, by simp; omega, ?_, hC, z0⟩, h4.left_eq⟩
  · rw [hs]
    simp only [List.length_append, List.length_singleton, List.map_append, List.map_cons, List.map_nil]
    exact hown

theorem names_end {w0 wr : World} {l : Nodes} {p : ByteArray} {ss : List (List UInt8)} {g cap n : Nat} {cur : Array Value} {os : Array Obj} (hx : Ext w0 wr) (hp : ss.Perm (keysD l)) (hbase : w0.heap.size ≤ g) (hb : wr.heap[g]? = some (.cells cur 9 (0, 0))) (h1 : (namesL p ss).length ≤ cap) (h2 : cap ≤ maxLen) (h3 : cur.size = cap * 1) :
    (Go.Sort.grow (Go.Sort.putRow encStr (Go.Sort.ahead wr n) g 0 ((namesL p ss).mergeSort fun x y => decide (x ≤ y)).toArray) os).ownsRow w0.heap.size 9 1 (.slice (some ⟨g, 0, none⟩) (namesL p ss).length cap) (listS l p).length ((listS l p).map Value.string) ∧
    Ext w0 (Go.Sort.grow (Go.Sort.putRow encStr (Go.Sort.ahead wr n) g 0 ((namesL p ss).mergeSort fun x y => decide (x ≤ y)).toArray) os) := by
  have hs := ownsRow_sorted (ss := namesL p ss) (ts := (namesL p ss).mergeSort fun x y => decide (x ≤ y)) (os := os) (n := n) (by simp) hbase hb h1 h2 h3
  refine ⟨?_, ?_⟩
  · rw [← sort_names hp, ← enc_map]
    simp only [List.length_map, List.length_mergeSort]
    exact hs
  · exact Below.grown hx (grownBy_sorted _) hx.size (fun j hj => by cases hj; exact hbase)
theorem owns_base {W : World} {base base' : Nat} {e : TypeId} {size : Nat} {v : Value} {k : Nat} {xs : List Value} (h : W.ownsRow base e size v k xs) (hb : base' ≤ base) : W.ownsRow base' e size v k xs := by
  refine ⟨h.1, ?_⟩
  rcases h.2 with h1 | ⟨g, cap, cur, hv, hg, hh, hr⟩
  · exact .inl h1
  · exact .inr ⟨g, cap, cur, hv, Nat.le_trans hb hg, hh, hr⟩
/-- What List hands back. -/
def ListPost (w : World) (R : List ByteArray × Int) (e : Ending) (w' : World) : Prop := ∃ v, e = .returned (.tuple #[v, .int .i64 R.2]) ∧ w'.ownsRow w.heap.size 9 1 v R.1.length (R.1.map Value.string) ∧ Ext w w'
theorem ListPost.none {w w' : World} {R : List ByteArray × Int} {n : Int} (hR : R = ([], n)) (x : Ext w w') : ListPost w R (.returned (.tuple #[.slice none 0 0, .int .i64 n])) w' := by
  subst hR
  exact ⟨_, rfl, World.ownsRow_nil _ _ _ _, x⟩
theorem keyW {D : DataW Value} {l : Nodes} (hread : ∀ s : ByteArray, Maps.has D (.string s.data.toList) = (findA l s).isSome ∧ ∀ z, D.atKey (.string s.data.toList) z = (match findA l s with | some n => .held (nv n) | none => z)) (hk : ∀ x ∈ l, x.1.size ≤ 160) :
    ∀ x : List UInt8, Maps.has D (.string x) = true → (bsL x).size ≤ 160 := fun x hx => by
  have := (hread (bsL x)).1
  rw [show (bsL x).data.toList = x from rfl, hx] at this
  obtain ⟨y, hy, e⟩ := List.mem_map.1 (findA_isSome.1 this.symm)
  rw [← e]; exact hk y hy

set_option maxHeartbeats 8000000 in
set_option maxRecDepth 100000 in
theorem List_any {w : World} {d : Nat} {M I : List Nat} {D : Dk} (h : DkAt w d M I D) (O : DkOk D) (E : Env w) (p : ByteArray) (hp : p.size < 4294967281) :
    Calls Tryz.prog 61 #[.pointer (some ⟨d, 0, none⟩), .string p] w (ListPost w (listE D.live p)) := by
  have HR := Lib.hid (show listE D.live p = if p.toList.isEmpty || mayB p then (if dirE D.live p = 0 then (listS D.live p, 0) else ([], dirE D.live p)) else ([], 10) from rfl)
  obtain ⟨lt, lm, st, sm, lg, vs, h, hM⟩ := h
  have c0 : w.cell? ⟨d, 0, none⟩ = some (.pointer (some ⟨lt, 0, none⟩)) := cellB h.blk
  have H1 := Lib.hid (dis_any d _ w c0)
  have H2 := Lib.hid (may_any p w hp E)
  have H3 := fun w x => Lib.hid (ddir_any lt lm D.live D.room p w x (by unfold maxLen; omega) (O.live.nz p))
  have H4 := fun k w hk E => Lib.hid (parent_any (bsL k) w hk E)
  have H5 := fun k w hk E => Lib.hid (base_any (bsL k) w hk E)
  have SS := fun blk off cap ss w h1 h2 h3 => Lib.hid (Tryz.slices_Sort_string blk off cap ss w h1 h2 h3)
  have SN := fun p cap w => Lib.hid (Tryz.slices_Sort_string_none p cap w)
  have HT := Lib.hid h.live
  have HD := Lib.hid h.blk
  have hu := O.live.used
  have hr2 := O.r2
  have hlen := len_used D.live
  have hl2 : D.live.length ≤ 1048576 := by omega
  have HK := Lib.hid (show ∀ x ∈ D.live, x.1.size ≤ 160 from fun x hx => mayB_size (O.live.may x hx))
  have HE := Lib.hid E
  have hdl := ltB h.blk
  clear h hM O E hu hr2 hlen
  generalize D.live = l at *
  generalize D.room = room at *
  generalize hRR : listE l p = R at *
  generalize hEE : dirE l p = ed at *
  clear hRR hEE
  -- what a walk does behind the two tests
  cases hpe : (p.toList.isEmpty || mayB p) with
  | false =>
    have HR2 := Lib.hid (HR.out.trans (if_neg (by rw [hpe]; decide)))
    obtain ⟨q1, q2⟩ := Bool.or_eq_false_iff.1 hpe
    rw [q2] at H2
    have q3 : p.toList ≠ [] := by intro e; rw [e] at q1; cases q1
    have q4 : (!p.toList.isEmpty) = true := by rw [q1]; rfl
    clear hpe HR q2
    go_enter Tryz.func61, Tryz.ntmps61
    go_wp2_with fail
    refine H1.out.mono ?_
    rintro e w1 ⟨rfl, hw1⟩
    obtain rfl := hw1.symm
    clear hw1
    go_wp2_with fail
    refine H2.out.mono ?_
    rintro e w2 ⟨rfl, x2⟩
    have HX2 := Lib.hid x2
    clear x2
    go_wp2_with fail
    go_ret2
    exact ListPost.none HR2.out HX2.out
  | true =>
    have HR2 := Lib.hid (HR.out.trans (if_pos hpe))
    by_cases hed : ed = 0
    · have HR3 := Lib.hid (HR2.out.trans (if_pos hed))
      subst hed
      clear HR HR2
      cases hem : p.toList.isEmpty with
      | true =>
        have q3 : p.toList = [] := empty_of.1 hem
        clear hpe
        go_enter Tryz.func61, Tryz.ntmps61
        go_wp2_with fail
        refine H1.out.mono ?_
        rintro e w1 ⟨rfl, hw1⟩
        obtain rfl := hw1.symm
        clear hw1
        go_wp2_with fail
        refine (H3 _ HT.out).out.mono ?_
        rintro e w3 ⟨rfl, x3⟩
        have HX3 := Lib.hid x3
        have HT3 := Lib.hid (HT.out.ext x3)
        clear x3 c0 H1 H2 H3
        have t3 := HT3.out
        have d3 : w3.cell? ⟨d, 0, none⟩ = some (.pointer (some ⟨lt, 0, none⟩)) := cellB ((HX3.out.block hdl).trans HD.out)
        have l3 : w3.cell? ⟨lt, 0, none⟩ = some (.map (some lm)) := cellB t3.blk
        obtain ⟨hnd, _, D, hown, hread⟩ := t3.map
        have HP := Lib.hid (strKeys_of hown hnd fun s => (hread s).1)
        have hsz : Maps.size D = l.length := size_of hown hnd fun s => (hread s).1
        have HKD := Lib.hid (keyW hread HK.out)
        have hm : lm < w3.heap.size := t3.map.lt
        clear hread hnd t3
        go_wp2_with (at_range; refine wpList_range_own _ rfl _ 142 rfl 9 57 keyedN Tryz.underlying142 RN lm l.length D rfl hown ?_; intro w0 hrg0 hg0 hs0)
        go_frame
        have H0 := Lib.hid (show NmAt w3 w0 lm l.length D p (.slice none 0 0) from ⟨_, _, [], hrg0, by simp, World.ownsRow_nil _ _ _ _, Collected.start D, Below.grown (Below.refl _ _) hg0 (Nat.le_refl _) (fun j hj => by cases hj)⟩)
        clear hg0 hs0 hrg0 d3 l3
        go_loopw [7] (fun v wr => Hid (NmAt w3 wr lm l.length D p v)) (fun _ wr => wr.rangeLeft lm w3.heap.size)
        case atStart => exact H0
        case round =>
          obtain ⟨left, cnt, ss, hrg, hcs, hrow, hC, hx⟩ := hrel.out
          clear hrel H0
          go_wp2_with (at_next; refine wpList_next_ranges _ rfl _ rfl 9 keyedN RN encStr id str_inv RN_inv lm w3.heap.size l.length D left cnt rfl hrg ?_ ?_)
          · intro hc0 hl0
            have hperm : ss.Perm (keysD l) := (hC.perm hrg.owns keyedN Tryz.underlying9 hl0).trans HP.out.symm
            have HX := Lib.hid hx
            have hil := names_len p ss
            have hcs2 : ss.length ≤ l.length := by omega
            rcases hrow.2 with ⟨rfl, hnil⟩ | ⟨g, cap, cur, rfl, hbase, hb, h1, h2, h3, h4⟩
            · have HN := Lib.hid (show listS l p = [] from by
                have h0 : namesL p ss = [] := by simpa using hnil
                rw [← sort_names hperm, h0]; simp)
              clear hC hrg hrow hnil hl0 hperm hx hcs hc0
              go_wp2_with fail
              refine (SN _ _ _).out.mono ?_
              rintro e w9 ⟨rfl, rfl⟩
              go_wp2_with fail
              go_ret2
              rw [HR3.out]
              exact ⟨_, rfl, by rw [HN.out]; exact World.ownsRow_nil _ _ _ _, HX3.out.trans HX.out⟩
            · have hH : Holds encStr wr g 0 (namesL p ss).toArray := holds_of_block hb (by simpa using h4)
              have hgl : g < wr.heap.size := (Array.getElem?_eq_some_iff.1 hb).1
              have HS := Lib.hid (SS g 0 cap (namesL p ss) wr hH hgl (by omega)).out
              have HEnd := fun n os => Lib.hid (names_end (n := n) (os := os) hx hperm hbase hb h1 h2 h3)
              clear hC hrg hrow hl0 hperm hx hcs hc0 h4 hH h3 hb SS SN
              go_wp2_with fail
              refine HS.out.mono ?_
              rintro e w9 ⟨rfl, n9, os9, rfl⟩
              have HE9 := HEnd n9 os9
              clear HEnd HS
              go_wp2_with fail
              go_ret2
              rw [HR3.out]
              exact ⟨_, rfl, owns_base HE9.out.1 HX3.out.size, HX3.out.trans HE9.out.2⟩
          · intro x c kl yd yp w2 cnt2 hkey hlk hv hat hrg2 hlt hg2 hs2 hen
            obtain ⟨x', ex, rfl, _⟩ := Maps.keyOf_str Tryz.underlying9 hkey
            obtain rfl : x = x' := encStr_inj ex
            have hen2 : (Instr.entry (.pointer (some ⟨w3.heap.size, 0, none⟩))).run Tryz.prog w2 = .ok (.tuple #[.string (bsL x), c]) w2 := hen
            have hC2 := hC.step hlk hat
            have hxs := HKD.out x (has_true_of_atKey hat)
            have hx2 : Ext w3 w2 := Below.grown hx hg2 hx.size (fun j hj => by cases hj; exact Nat.le_refl _)
            have hrow2 := hrow.kept hg2 (.inr (fun e => row_ne_iter hrow hrg e.symm))
            have HW := Lib.hid (H4 x w2 (by omega) (HE.out.ext (HX3.out.trans hx2))).out
            have HW5 := fun w E => Lib.hid (H5 x w (by omega) E).out
            have HX2 := Lib.hid hx2
            have HR2 := Lib.hid hrow2
            have HG2 := Lib.hid hrg2
            have HC2 := Lib.hid hC2
            have hil := names_len p ss
            have HSn := Lib.hid (names_snoc p ss x)
            have hcnt : ss.length + 1 + cnt2 ≤ l.length := by omega
            have HSZ := Lib.hid hsz
            have HLT := Lib.hid (show cnt2 < cnt from hlt)
            have HG := Lib.hid hrg
            have hbz : (baseR (bsL x)).size ≤ 160 := by
              have : (baseR (bsL x)).size ≤ (bsL x).size := by
                unfold baseR; split
                · exact base_lt _
                · exact Nat.zero_le _
              omega
            clear hen hs2 hg2 hrg2 hv hkey ex hC hC2 hx hx2 hrow hrow2 hrg hlk hat hcs hlt HK SS SN H4 H5
            generalize parentR (bsL x) = up at *
            obtain ⟨bb, hbb⟩ : ∃ bb, baseR (bsL x) = bb := ⟨_, rfl⟩
            rw [hbb] at HSn HW5 hbz
            by_cases hup : up = p
            · have u1 : (up.toList == p.toList) = true := by rw [hup]; simp
              have HSn2 := Lib.hid (show namesL p (ss ++ [x]) = namesL p ss ++ [bb.data.toList] from by rw [HSn.out, hup]; simp)
              subst hup
              clear hbb
              go_wp2_with fail
              refine HW.out.mono ?_
              rintro e w4 ⟨rfl, x4⟩
              have HX4 := Lib.hid x4
              clear x4 HW
              go_wp2_with fail
              refine (HW5 _ (HE.out.ext ((HX3.out.trans HX2.out).trans HX4.out))).out.mono ?_
              rintro e w5 ⟨rfl, x5⟩
              have HX5 := Lib.hid (HX4.out.trans x5)
              have HO3 := Lib.hid (owns_ext HR2.out HX5.out)
              clear x5 HX4
              go_wp2_with (at_builtin; refine append_one el_string w3.heap.size _ _ _ (HO3.out.alloc _) w5.heap.size (.string bb) (.tmp 52) (.tmp 55) rfl rfl rfl rfl (by rw [cell_alloc_new rfl]; rfl) rfl (by omega) (by have := (HX2.out.trans HX5.out).size; simp; omega) ?_)
              intro v' w6 hown4 hg4 hv4
              have HF := Lib.hid (nm_add HG2.out HX5.out (by rw [Nat.add_right_comm] at hcnt; rw [HSZ.out]; exact hcnt) HO3.out hown4 hg4 HC2.out HSn2.out HX2.out hm)
              clear hown4 hg4 hv4
              go_wp2_with fail
              go_roundw
              case rel => exact HF.out.1
              case measure =>
                have h2 := HG.out.left_eq
                rw [HF.out.2, h2]; exact HLT.out
            · have u1 : (up.toList == p.toList) = false := by simpa using fun e => hup (ba_ext e)
              have u4 : ¬ up.toList = [] := fun e => hup (ba_ext (e.trans q3.symm))
              have u5 : up.toList.isEmpty = false := by cases e : up.toList with | nil => exact absurd e u4 | cons _ _ => rfl
              have u6 : (!up.toList.isEmpty) = true := by rw [u5]; rfl
              have HSn2 := Lib.hid (show namesL p (ss ++ [x]) = namesL p ss from by rw [HSn.out]; simp [hup])
              clear hbb
              go_wp2_with fail
              refine HW.out.mono ?_
              rintro e w4 ⟨rfl, x4⟩
              have HX4 := Lib.hid x4
              clear x4 HW
              go_wp2_with fail
              go_roundw
              case rel => exact nm_skip HG2.out HX4.out (by rw [Nat.add_right_comm] at hcnt; rw [HSZ.out]; exact hcnt) HR2.out HC2.out HSn2.out HX2.out
              case measure =>
                have h1 := (HG2.out.kept HX4.out.grownBy (by simp) (by simp)).left_eq
                have h2 := HG.out.left_eq
                rw [h1, h2]; exact HLT.out
      | false =>
        rw [hem, Bool.false_or] at hpe
        rw [hpe] at H2
        have q3 : p.toList ≠ [] := by intro e; rw [e] at hem; cases hem
        have q4 : (!p.toList.isEmpty) = true := by rw [hem]; rfl
        clear hpe hem
        go_enter Tryz.func61, Tryz.ntmps61
        go_wp2_with fail
        refine H1.out.mono ?_
        rintro e w1 ⟨rfl, hw1⟩
        obtain rfl := hw1.symm
        clear hw1
        go_wp2_with fail
        refine H2.out.mono ?_
        rintro e w2 ⟨rfl, x2⟩
        have c2 : w2.cell? ⟨d, 0, none⟩ = some (.pointer (some ⟨lt, 0, none⟩)) := cellB ((x2.block hdl).trans HD.out)
        have HX2 := Lib.hid x2
        clear x2
        go_wp2_with fail
        refine (H3 _ (HT.out.ext HX2.out)).out.mono ?_
        rintro e w3 ⟨rfl, x3⟩
        have HX3 := Lib.hid (HX2.out.trans x3)
        have HT3 := Lib.hid ((HT.out.ext HX2.out).ext x3)
        clear x3 c0 c2 HX2 H1 H2 H3
        have t3 := HT3.out
        have d3 : w3.cell? ⟨d, 0, none⟩ = some (.pointer (some ⟨lt, 0, none⟩)) := cellB ((HX3.out.block hdl).trans HD.out)
        have l3 : w3.cell? ⟨lt, 0, none⟩ = some (.map (some lm)) := cellB t3.blk
        obtain ⟨hnd, _, D, hown, hread⟩ := t3.map
        have HP := Lib.hid (strKeys_of hown hnd fun s => (hread s).1)
        have hsz : Maps.size D = l.length := size_of hown hnd fun s => (hread s).1
        have HKD := Lib.hid (keyW hread HK.out)
        have hm : lm < w3.heap.size := t3.map.lt
        clear hread hnd t3
        go_wp2_with (at_range; refine wpList_range_own _ rfl _ 142 rfl 9 57 keyedN Tryz.underlying142 RN lm l.length D rfl hown ?_; intro w0 hrg0 hg0 hs0)
        go_frame
        have H0 := Lib.hid (show NmAt w3 w0 lm l.length D p (.slice none 0 0) from ⟨_, _, [], hrg0, by simp, World.ownsRow_nil _ _ _ _, Collected.start D, Below.grown (Below.refl _ _) hg0 (Nat.le_refl _) (fun j hj => by cases hj)⟩)
        clear hg0 hs0 hrg0 d3 l3
        go_loopw [7] (fun v wr => Hid (NmAt w3 wr lm l.length D p v)) (fun _ wr => wr.rangeLeft lm w3.heap.size)
        case atStart => exact H0
        case round =>
          obtain ⟨left, cnt, ss, hrg, hcs, hrow, hC, hx⟩ := hrel.out
          clear hrel H0
          go_wp2_with (at_next; refine wpList_next_ranges _ rfl _ rfl 9 keyedN RN encStr id str_inv RN_inv lm w3.heap.size l.length D left cnt rfl hrg ?_ ?_)
          · intro hc0 hl0
            have hperm : ss.Perm (keysD l) := (hC.perm hrg.owns keyedN Tryz.underlying9 hl0).trans HP.out.symm
            have HX := Lib.hid hx
            have hil := names_len p ss
            have hcs2 : ss.length ≤ l.length := by omega
            rcases hrow.2 with ⟨rfl, hnil⟩ | ⟨g, cap, cur, rfl, hbase, hb, h1, h2, h3, h4⟩
            · have HN := Lib.hid (show listS l p = [] from by
                have h0 : namesL p ss = [] := by simpa using hnil
                rw [← sort_names hperm, h0]; simp)
              clear hC hrg hrow hnil hl0 hperm hx hcs hc0
              go_wp2_with fail
              refine (SN _ _ _).out.mono ?_
              rintro e w9 ⟨rfl, rfl⟩
              go_wp2_with fail
              go_ret2
              rw [HR3.out]
              exact ⟨_, rfl, by rw [HN.out]; exact World.ownsRow_nil _ _ _ _, HX3.out.trans HX.out⟩
            · have hH : Holds encStr wr g 0 (namesL p ss).toArray := holds_of_block hb (by simpa using h4)
              have hgl : g < wr.heap.size := (Array.getElem?_eq_some_iff.1 hb).1
              have HS := Lib.hid (SS g 0 cap (namesL p ss) wr hH hgl (by omega)).out
              have HEnd := fun n os => Lib.hid (names_end (n := n) (os := os) hx hperm hbase hb h1 h2 h3)
              clear hC hrg hrow hl0 hperm hx hcs hc0 h4 hH h3 hb SS SN
              go_wp2_with fail
              refine HS.out.mono ?_
              rintro e w9 ⟨rfl, n9, os9, rfl⟩
              have HE9 := HEnd n9 os9
              clear HEnd HS
              go_wp2_with fail
              go_ret2
              rw [HR3.out]
              exact ⟨_, rfl, owns_base HE9.out.1 HX3.out.size, HX3.out.trans HE9.out.2⟩
          · intro x c kl yd yp w2 cnt2 hkey hlk hv hat hrg2 hlt hg2 hs2 hen
            obtain ⟨x', ex, rfl, _⟩ := Maps.keyOf_str Tryz.underlying9 hkey
            obtain rfl : x = x' := encStr_inj ex
            have hen2 : (Instr.entry (.pointer (some ⟨w3.heap.size, 0, none⟩))).run Tryz.prog w2 = .ok (.tuple #[.string (bsL x), c]) w2 := hen
            have hC2 := hC.step hlk hat
            have hxs := HKD.out x (has_true_of_atKey hat)
            have hx2 : Ext w3 w2 := Below.grown hx hg2 hx.size (fun j hj => by cases hj; exact Nat.le_refl _)
            have hrow2 := hrow.kept hg2 (.inr (fun e => row_ne_iter hrow hrg e.symm))
            have HW := Lib.hid (H4 x w2 (by omega) (HE.out.ext (HX3.out.trans hx2))).out
            have HW5 := fun w E => Lib.hid (H5 x w (by omega) E).out
            have HX2 := Lib.hid hx2
            have HR2 := Lib.hid hrow2
            have HG2 := Lib.hid hrg2
            have HC2 := Lib.hid hC2
            have hil := names_len p ss
            have HSn := Lib.hid (names_snoc p ss x)
            have hcnt : ss.length + 1 + cnt2 ≤ l.length := by omega
            have HSZ := Lib.hid hsz
            have HLT := Lib.hid (show cnt2 < cnt from hlt)
            have HG := Lib.hid hrg
            have hbz : (baseR (bsL x)).size ≤ 160 := by
              have : (baseR (bsL x)).size ≤ (bsL x).size := by
                unfold baseR; split
                · exact base_lt _
                · exact Nat.zero_le _
              omega
            clear hen hs2 hg2 hrg2 hv hkey ex hC hC2 hx hx2 hrow hrow2 hrg hlk hat hcs hlt HK SS SN H4 H5
            generalize parentR (bsL x) = up at *
            obtain ⟨bb, hbb⟩ : ∃ bb, baseR (bsL x) = bb := ⟨_, rfl⟩
            rw [hbb] at HSn HW5 hbz
            by_cases hup : up = p
            · have u1 : (up.toList == p.toList) = true := by rw [hup]; simp
              have HSn2 := Lib.hid (show namesL p (ss ++ [x]) = namesL p ss ++ [bb.data.toList] from by rw [HSn.out, hup]; simp)
              subst hup
              clear hbb
              go_wp2_with fail
              refine HW.out.mono ?_
              rintro e w4 ⟨rfl, x4⟩
              have HX4 := Lib.hid x4
              clear x4 HW
              go_wp2_with fail
              refine (HW5 _ (HE.out.ext ((HX3.out.trans HX2.out).trans HX4.out))).out.mono ?_
              rintro e w5 ⟨rfl, x5⟩
              have HX5 := Lib.hid (HX4.out.trans x5)
              have HO3 := Lib.hid (owns_ext HR2.out HX5.out)
              clear x5 HX4
              go_wp2_with (at_builtin; refine append_one el_string w3.heap.size _ _ _ (HO3.out.alloc _) w5.heap.size (.string bb) (.tmp 52) (.tmp 55) rfl rfl rfl rfl (by rw [cell_alloc_new rfl]; rfl) rfl (by omega) (by have := (HX2.out.trans HX5.out).size; simp; omega) ?_)
              intro v' w6 hown4 hg4 hv4
              have HF := Lib.hid (nm_add HG2.out HX5.out (by rw [Nat.add_right_comm] at hcnt; rw [HSZ.out]; exact hcnt) HO3.out hown4 hg4 HC2.out HSn2.out HX2.out hm)
              clear hown4 hg4 hv4
              go_wp2_with fail
              go_roundw
              case rel => exact HF.out.1
              case measure =>
                have h2 := HG.out.left_eq
                rw [HF.out.2, h2]; exact HLT.out
            · have u1 : (up.toList == p.toList) = false := by simpa using fun e => hup (ba_ext e)
              have HSn2 := Lib.hid (show namesL p (ss ++ [x]) = namesL p ss from by rw [HSn.out]; simp [hup])
              clear hbb
              go_wp2_with fail
              refine HW.out.mono ?_
              rintro e w4 ⟨rfl, x4⟩
              have HX4 := Lib.hid x4
              clear x4 HW
              go_wp2_with fail
              go_roundw
              case rel => exact nm_skip HG2.out HX4.out (by rw [Nat.add_right_comm] at hcnt; rw [HSZ.out]; exact hcnt) HR2.out HC2.out HSn2.out HX2.out
              case measure =>
                have h1 := (HG2.out.kept HX4.out.grownBy (by simp) (by simp)).left_eq
                have h2 := HG.out.left_eq
                rw [h1, h2]; exact HLT.out
    · have HR3 := Lib.hid (HR2.out.trans (if_neg hed))
      have n1 : (ed == 0) = false := by simpa using hed
      have n2 : (ed != 0) = true := by simpa using hed
      cases hem : p.toList.isEmpty with
      | true =>
        have q3 : p.toList = [] := empty_of.1 hem
        clear hpe HR HR2
        go_enter Tryz.func61, Tryz.ntmps61
        go_wp2_with fail
        refine H1.out.mono ?_
        rintro e w1 ⟨rfl, hw1⟩
        obtain rfl := hw1.symm
        clear hw1
        go_wp2_with fail
        refine (H3 _ HT.out).out.mono ?_
        rintro e w3 ⟨rfl, x3⟩
        have HX3 := Lib.hid x3
        clear x3
        go_wp2_with fail
        go_ret2
        exact ListPost.none HR3.out HX3.out
      | false =>
        rw [hem, Bool.false_or] at hpe
        rw [hpe] at H2
        have q3 : p.toList ≠ [] := by intro e; rw [e] at hem; cases hem
        have q4 : (!p.toList.isEmpty) = true := by rw [hem]; rfl
        clear hpe HR HR2 hem
        go_enter Tryz.func61, Tryz.ntmps61
        go_wp2_with fail
        refine H1.out.mono ?_
        rintro e w1 ⟨rfl, hw1⟩
        obtain rfl := hw1.symm
        clear hw1
        go_wp2_with fail
        refine H2.out.mono ?_
        rintro e w2 ⟨rfl, x2⟩
        have c2 : w2.cell? ⟨d, 0, none⟩ = some (.pointer (some ⟨lt, 0, none⟩)) := cellB ((x2.block hdl).trans HD.out)
        have HX2 := Lib.hid x2
        clear x2
        go_wp2_with fail
        refine (H3 _ (HT.out.ext HX2.out)).out.mono ?_
        rintro e w3 ⟨rfl, x3⟩
        have HX3 := Lib.hid (HX2.out.trans x3)
        clear x3
        go_wp2_with fail
        go_ret2
        exact ListPost.none HR3.out HX3.out
end Go.Proofs.YtldppmjjgljinaaGreatDoor
