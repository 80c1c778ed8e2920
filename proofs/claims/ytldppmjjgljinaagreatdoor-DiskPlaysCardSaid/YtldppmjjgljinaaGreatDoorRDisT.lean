/- The names of what lies in a directory rise with the paths, so sorting leaves them as they are. No program in sight. Contract of caravanref09: Crash. Contracts of caravanref09: List, Same. -/
import Derived.Test.YtldppmjjgljinaaGreatDoorDiskJ
import Derived.Test.YtldppmjjgljinaaGreatDoorActP
import Derived.Test.YtldppmjjgljinaaGreatDoorRDisQ
import Derived.Test.YtldppmjjgljinaaGreatDoorDiskM
import Derived.Test.YtldppmjjgljinaaGreatDoorLawDkG
import Derived.Sort.Walk0
import Derived.Laws.CopyOwn
namespace Go.Proofs.YtldppmjjgljinaaGreatDoor
open Go.RowKit

/-- The names of what lies in a directory, in the order of the tree. -/
def kidsL (l : Nodes) (p : ByteArray) : List ByteArray := (l.filter fun x => decide (parentR x.1 = p)).map fun x => baseR x.1

theorem cmpL_ahead (a b c : List UInt8) : cmpL (a ++ b) (a ++ c) = cmpL b c := by
  induction a with
  | nil => rfl
  | cons x a ih => simpa [cmpL] using ih
theorem cmp_less : ∀ (b c : List UInt8), 47 ∉ b → 47 ∉ c → cmpL b c = -1 → Go.Op.bytesLess b c = true
  | [], [], _, _, h => by simp [cmpL] at h
  | [], _ :: _, _, _, _ => rfl
  | _ :: _, [], _, _, h => by simp [cmpL] at h
  | x :: b, y :: c, hb, hc, h => by
    unfold cmpL at h
    unfold Go.Op.bytesLess
    simp only [List.mem_cons, not_or] at hb hc
    by_cases e : x = y
    · rw [if_pos e] at h
      rw [cmp_less b c hb.2 hc.2 h, e]
      simp
    · rw [if_neg e, if_neg (Ne.symm hb.1), if_neg (Ne.symm hc.1)] at h
      split at h
      · rename_i hlt
        rw [decide_eq_true (UInt8.lt_iff_toNat_lt.2 hlt), Bool.true_or]
      · cases h
theorem base_no (s : ByteArray) : 47 ∉ (baseS s).toList := by
  rw [(split_toList s).2]
  rcases last_slash s.toList with h | ⟨a, b, e, hb⟩
  · rw [baseL_no h]; exact h
  · rw [e, baseL_at a b hb]; exact hb
theorem part_parent {s : ByteArray} (h : mayB s = true) : ((parentS s).toList.isEmpty = true → baseS s = s) ∧ ((parentS s).toList.isEmpty = false → s.toList = (parentS s).toList ++ 47 :: (baseS s).toList) := by
  have hsp := split_toList s
  rcases last_slash s.toList with hno | ⟨a, b, hl, hb⟩
  · rw [aheadL_no hno, baseL_no hno] at hsp
    exact ⟨fun _ => ba_ext hsp.2, fun hf => by rw [hsp.1] at hf; cases hf⟩
  · have e1 : aheadL s.toList = a := by rw [hl]; exact aheadL_at a b hb
    have e2 : baseL s.toList = b := by rw [hl]; exact baseL_at a b hb
    rw [e1, e2] at hsp
    refine ⟨fun ht => ?_, fun _ => by rw [hsp.1, hsp.2]; exact hl⟩
    exfalso
    rw [hsp.1] at ht
    obtain rfl : a = [] := by cases a with | nil => rfl | cons x y => cases ht
    rw [mayB_list, hl] at h
    unfold mayL at h
    simp only [Bool.and_eq_true] at h
    have := List.all_eq_true.1 h.2.2 [] (by simp [piecesL, splitAux])
    cases this
theorem name_less {x y : ByteArray} (hx : mayB x = true) (hy : mayB y = true) (hp : parentS x = parentS y) (h : cmpL x.toList y.toList = -1) : Go.Op.bytesLess (baseS x).toList (baseS y).toList = true := by
  refine cmp_less _ _ (base_no x) (base_no y) ?_
  cases he : (parentS x).toList.isEmpty with
  | true =>
    rw [(part_parent hx).1 he, (part_parent hy).1 (by rw [← hp]; exact he)]; exact h
  | false =>
    have h1 := (part_parent hx).2 he
    have h2 := (part_parent hy).2 (by rw [← hp]; exact he)
    rw [← hp] at h2
    rw [h1, h2, cmpL_ahead] at h
    simpa [cmpL] using h
theorem kids_rise {l : Nodes} {room : Nat} (T : TreeOk l room) (p : ByteArray) : (kidsL l p).Pairwise fun a b => Go.Op.bytesLess a.toList b.toList = true := by
  unfold kidsL
  rw [List.pairwise_map]
  have hs : (l.filter fun x => decide (parentR x.1 = p)).Pairwise fun x y => cmpL x.1.toList y.1.toList = -1 := List.Pairwise.filter _ T.sorted
  refine List.Pairwise.imp_of_mem (fun {x y} hx hy h => ?_) hs
  obtain ⟨hx1, hx2⟩ := List.mem_filter.1 hx
  obtain ⟨hy1, hy2⟩ := List.mem_filter.1 hy
  have mx := T.may x hx1
  have my := T.may y hy1
  have e1 := of_decide_eq_true hx2
  have e2 := of_decide_eq_true hy2
  rw [parentR_may mx] at e1
  rw [parentR_may my] at e2
  show Go.Op.bytesLess (baseR x.1).toList (baseR y.1).toList = true
  unfold baseR
  rw [if_pos mx, if_pos my]
  exact name_less mx my (e1.trans e2.symm) h
theorem names_kids (l : Nodes) (p : ByteArray) : namesL p (keysD l) = (kidsL l p).map fun s => s.data.toList := by
  unfold namesL keysD kidsL
  rw [List.filter_map, List.map_map, List.map_map]
  rfl
theorem list_kids {l : Nodes} {room : Nat} (T : TreeOk l room) (p : ByteArray) : listS l p = kidsL l p := by
  unfold listS
  rw [names_kids, List.mergeSort_of_pairwise]
  · rw [List.map_map]
    exact List.map_id _
  · rw [List.pairwise_map]
    refine (kids_rise T p).imp fun {a b} h => ?_
    rw [Go.Proofs.bytesLess_eq, Lib.toList_data, Lib.toList_data, decide_eq_true_eq] at h
    rw [decide_eq_true_eq]
    exact List.le_of_lt h
/-- A name, as the document cuts it off. -/
theorem name_cut {q p : ByteArray} (hq : mayB q = true) (hp : parentR q = p) : (p.toList.isEmpty = true → baseR q = q) ∧ (p.toList.isEmpty = false → q.extract (p.size + 1) q.size = baseR q ∧ p.size + 1 ≤ q.size) := by
  rw [parentR_may hq] at hp
  subst hp
  unfold baseR
  rw [if_pos hq]
  refine ⟨fun he => (part_parent hq).1 he, fun he => ?_⟩
  have hl := (part_parent hq).2 he
  have hz : q.size = (parentS q).size + 1 + (baseS q).size := by
    rw [← len_toList q, hl]
    simp [len_toList]; omega
  refine ⟨ba_ext ?_, by omega⟩
  rw [toList_extract, hl, show (parentS q).toList ++ 47 :: (baseS q).toList = ((parentS q).toList ++ [47]) ++ (baseS q).toList from by simp, show (parentS q).size + 1 = ((parentS q).toList ++ [47]).length from by simp [len_toList], List.drop_left, List.take_of_length_le]
  simp [len_toList]; omega
theorem kids_take {l : Nodes} {p : ByteArray} {k : Nat} {x : ByteArray × Nd} (h : l[k]? = some x) : kidsL (l.take (k + 1)) p = kidsL (l.take k) p ++ (if parentR x.1 = p then [baseR x.1] else []) := by
  unfold kidsL
  rw [take_next h, List.filter_append, List.map_append]
  by_cases e : parentR x.1 = p <;> simp [e]
theorem kids_last {l : Nodes} {room : Nat} (T : TreeOk l room) {p : ByteArray} {k : Nat} {x : ByteArray × Nd} (h : l[k]? = some x) (hp : parentR x.1 = p) : ∀ y ∈ kidsL (l.take k) p, Go.Op.bytesLess y.toList (baseR x.1).toList = true := by
  have hr := kids_rise T p
  have ht : kidsL l p = kidsL (l.take (k + 1)) p ++ kidsL (l.drop (k + 1)) p := by
    unfold kidsL
    rw [← List.map_append, ← List.filter_append, List.take_append_drop]
  rw [ht, kids_take h, if_pos hp, List.append_assoc] at hr
  intro y hy
  exact (List.pairwise_append.1 hr).2.2 y hy _ (by simp)
theorem kids_len (l : Nodes) (p : ByteArray) (k : Nat) : (kidsL (l.take k) p).length ≤ l.length := by
  unfold kidsL
  rw [List.length_map]
  refine Nat.le_trans (List.length_filter_le _ _) ?_
  rw [List.length_take]; omega
end Go.Proofs.YtldppmjjgljinaaGreatDoor

namespace Go.Proofs.YtldppmjjgljinaaGreatDoor
open Go.RowKit

theorem rcrash_end {w wr W : World} {r lt ls t : Nat} {lv sv lg v : Value} {D : Dk} {l : Nodes} {ks : List UInt8} (h : RkIn w r lt ls lv sv lg D) (T : RTreeAt wr t v l D.room) (x : Ext w wr) (hn : ∀ b, b = t ∨ v.ownBlock = some b → b ∈ [lt, ls] ++ rowB lv ++ rowB sv ∨ w.heap.size ≤ b)
    (hl : l = crashL D.room D.lasts D.log ks) (hW : W = (((wr.setCell ⟨r, 0, none⟩ (.pointer (some ⟨t, 0, none⟩))).setCell ⟨r, 1, none⟩ (.pointer (some ⟨t, 0, none⟩))).setCell ⟨r, 2, none⟩ (.slice none 0 0)).setCell ⟨r, 3, none⟩ (.bool false)) :
    RkAt W r ([r] ++ rowB (.slice none 0 0)) ([t, t] ++ rowB v ++ rowB v) (D.crash ks) ∧ DkStep w ([r] ++ rowB lg) ([lt, ls] ++ rowB lv ++ rowB sv) W ([r] ++ rowB (.slice none 0 0)) ([t, t] ++ rowB v ++ rowB v) := by
  subst hl
  have hrl := ltB h.blk
  have hne : ∀ b, b = t ∨ v.ownBlock = some b → b ≠ r := fun b hb => (hn b hb).elim (fun hm => (h.imm b hm).1) fun hge => by omega
  have keyN : ∀ b, b ≠ r → W.heap[b]? = wr.heap[b]? := fun b hb => by rw [hW]; exact (setCellO hb).trans ((setCellO hb).trans ((setCellO hb).trans (setCellO hb)))
  have hb0 := (x.block hrl).trans h.blk
  have T' : RTreeAt W t v (crashL D.room D.lasts D.log ks) D.room := T.kept fun b hb => keyN b (hne b hb)
  have hmem : ∀ b, b ∈ [t, t] ++ rowB v ++ rowB v → b = t ∨ v.ownBlock = some b := fun b hb => by
    simp only [List.mem_append, List.mem_cons, List.not_mem_nil, or_false, or_self, mem_rowB] at hb
    rcases hb with (hb | hb) | hb
    · exact .inl hb
    · exact .inr hb
    · exact .inr hb
  refine ⟨⟨t, t, v, v, .slice none 0 0, ⟨?_, T', T', ⟨[], ⟨rfl, fun _ h => (by cases h)⟩, World.ownsRow_nil _ _ _ _⟩, fun e => (by cases e), fun b hb => ⟨hne b (hmem b hb), fun e => (by cases e)⟩⟩, rfl, rfl⟩, ⟨?_, fun b hb => .inl ?_, fun b hb => hn b (hmem b hb)⟩⟩
  · rw [hW, setCellB (setCellB (setCellB (setCellB hb0)))]; rfl
  · rw [hW]
    have c1 : Chg ([r] ++ rowB lg) w (wr.setCell ⟨r, 0, none⟩ (.pointer (some ⟨t, 0, none⟩))) := (x.chg _).trans (Chg.setCell (F := [r]) wr ⟨r, 0, none⟩ _ (by simp)) fun b hb => .inl (by simp at hb; simp [hb])
    have c2 := c1.trans (Chg.setCell (F := [r]) _ ⟨r, 1, none⟩ (.pointer (some ⟨t, 0, none⟩)) (by simp)) fun b hb => .inl (by simp at hb; simp [hb])
    have c3 := c2.trans (Chg.setCell (F := [r]) _ ⟨r, 2, none⟩ (.slice none 0 0) (by simp)) fun b hb => .inl (by simp at hb; simp [hb])
    exact c3.trans (Chg.setCell (F := [r]) _ ⟨r, 3, none⟩ (.bool false) (by simp)) fun b hb => .inl (by simp at hb; simp [hb])
  · simp [rowB, Value.ownBlock] at hb
    simp [hb]
/-- Behind k rounds. -/
def RcAt (w : World) (D : Dk) (ks : List UInt8) (I : List Nat) (k t : Nat) (wr : World) : Prop :=
  ∃ v, RTreeAt wr t v (crashL D.room D.lasts (D.log.take k) (ks.take k)) D.room ∧ Ext w wr ∧ ∀ b, b = t ∨ v.ownBlock = some b → b ∈ I ∨ w.heap.size ≤ b

set_option maxRecDepth 100000 in
set_option maxHeartbeats 8000000 in
theorem rcrash_any {w : World} {r : Nat} {M I : List Nat} {D : Dk} (h : RkAt w r M I D) (O : DkOk D) (FO : FileOk D.lasts) (hlen : D.log.length ≤ 1073741824) (pv : Value) (ks : List UInt8) (hp : BytesIn w pv ks) :
    Calls Tryz.prog 45 #[.pointer (some ⟨r, 0, none⟩), pv] w fun e w' => e = .returned (.tuple #[]) ∧ ∃ M' I', RkAt w' r M' I' (D.crash ks) ∧ DkStep w M I w' M' I' := by
  obtain ⟨lt, ls, lv, sv, lg, h, hM, hI⟩ := h
  obtain ⟨pa, pc, rfl, hpl, hpc1, hpr, hpc⟩ := hp
  unfold maxLen at hpc1
  have hb := h.blk
  have hrl := ltB hb
  have c1 : w.cell? ⟨r, 1, none⟩ = some (.pointer (some ⟨ls, 0, none⟩)) := cellB hb
  obtain ⟨res, hres, hlog⟩ := h.log
  obtain ⟨oa, ocap, rfl, hs1, hs2, hs3⟩ := row5_shape hlog
  have HLg := Lib.hid (show ∀ (k : Nat) (x : RE), res[k]? = some x → ∃ g, oa = some ⟨g, 0, none⟩ ∧ g < w.heap.size ∧ w.rangeAt g (k * 7) (cells7 x) from fun k x hx => by
    obtain ⟨g, e, _, hg, _⟩ := hs3 (k * 7 + 0) _ ((rows7_get hx (j := 0) (by omega)).trans rfl)
    refine ⟨g, e, hg, fun j u hj => ?_⟩
    have hj7 : j < 7 := (List.getElem?_eq_some_iff.1 hj).1
    obtain ⟨g', e', _, _, hc⟩ := hs3 (k * 7 + j) u ((rows7_get hx hj7).trans hj)
    rw [e] at e'
    cases e'
    exact hc)
  have hrl2 : res.length = D.log.length := by rw [← hres.1, List.length_map]
  have HRes := Lib.hid hres
  have HPC := Lib.hid hpc
  have HIn := Lib.hid h
  have HM := Lib.hid hM
  have HI := Lib.hid hI
  have HO := Lib.hid O
  have HFO := Lib.hid FO
  have H0 := Lib.hid (show RcAt w D ks ([lt, ls] ++ rowB lv ++ rowB sv) 0 ls w from ⟨sv, by simp only [List.take_zero, crashL]; exact h.lasts, Ext.refl _, fun b hb => .inl (by
    rcases hb with rfl | hb
    · simp
    · simp [mem_rowB.2 hb])⟩)
  obtain ⟨n, hn⟩ : ∃ n, n = D.log.length := ⟨_, rfl⟩
  have HN := Lib.hid hn
  rw [← hn] at hrl2 hlen hs1 HIn HM
  clear h hb hlog hs3 hpc O FO hM hI hres hn
  go_enter Tryz.func45, Tryz.ntmps45
  go_wp2_with fail
  go_loopw [4, 5] (fun tv iv wr => Hid (∃ (k t : Nat), k ≤ n ∧ iv = .int .i64 k ∧ tv = .pointer (some ⟨t, 0, none⟩) ∧ RcAt w D ks ([lt, ls] ++ rowB lv ++ rowB sv) k t wr)) (fun _ iv _ => n - (intOf iv).toNat)
  case atStart => exact ⟨0, ls, Nat.zero_le _, rfl, rfl, H0.out⟩
  case round =>
    obtain ⟨k, t, hk, rfl, rfl, hrc⟩ := hrel.out
    clear hrel H0 c1
    obtain ⟨v, hT, hx, hn⟩ := hrc
    have hbr := (hx.block hrl).trans HIn.out.blk
    have c2 := cellB (k := 2) hbr
    by_cases hlt : k < n
    · by_cases hkp : k < ks.length
      · obtain ⟨x, hxk⟩ : ∃ x, res[k]? = some x := ⟨_, List.getElem?_eq_getElem (by omega)⟩
        obtain ⟨u, hu⟩ : ∃ u, ks[k]? = some u := ⟨_, List.getElem?_eq_getElem hkp⟩
        obtain ⟨g, rfl, hgl, hc⟩ := HLg.out k x hxk
        obtain ⟨gp, op, rfl, hpc⟩ := HPC.out k u hu
        have hxe : D.log[k]? = some x.eff := by rw [← HRes.out.1, List.getElem?_map, hxk]; rfl
        have hxo := HRes.out.2 x (List.mem_of_getElem? hxk)
        have hef := HO.out.log x.eff (List.mem_of_getElem? hxe)
        have HSt := Lib.hid (crashL_step (room := D.room) k D.log ks D.lasts x.eff u hxe hu)
        have hTk : TreeOk (crashL D.room D.lasts (D.log.take k) (ks.take k)) D.room := crashL_ok HO.out.lasts fun y hy => HO.out.log y (List.mem_of_mem_take hy)
        have hFk := FileOk.crash D.room (D.log.take k) D.lasts (ks.take k) HFO.out
        have hmp : mayB x.p = true := hef.paths _ (by obtain ⟨_, _, _⟩ := hxo; unfold RE.eff; repeat (first | (split; simp [Eff.paths]) | simp [Eff.paths]))
        have hmq : x.k = 5 → mayB x.q = true := fun h5 => hef.paths _ (by unfold RE.eff; rw [h5]; simp [Eff.paths])
        have HNx := fun (most : Nat) (pk : Bool) (m : Nat) w' (X : Ext wr w') (hm : dataC pk most x.data = cutTo m x.data) => Lib.hid (rnext_any t v _ D.room x most pk m w' (hT.ext X) hTk hFk HO.out.r2 ⟨hxo.k1, hxo.k6⟩ hmp hmq hxo.data hm)
        have hz := hxo.data
        have HLD := Lib.hid (range_ext hc hx hgl)
        have cpk : wr.cell? ⟨gp, op + k, none⟩ = some (.int .u8 u.toNat) := (hx.cell (lt_of_cell hpc)).trans hpc
        generalize hE : x.eff = E at *
        obtain ⟨xk, xp, xq, xd, xt⟩ := x
        dsimp only at HNx hz
        have HX := Lib.hid hx
        have HT := Lib.hid hT
        have HNB := Lib.hid hn
        have x1 : Ext wr (wr.alloc (.cells #[.int .i64 xk, .string xp, .string xq, .string xd, .int .i64 xt, .int .i64 0, .bool false] 163)) := (Ext.refl wr).alloc _
        have cpw := cpk
        have cp1 := (x1.cell (lt_of_cell cpk)).trans cpk
        have hb1 : (wr.alloc (.cells #[.int .i64 xk, .string xp, .string xq, .string xd, .int .i64 xt, .int .i64 0, .bool false] 163)).heap[wr.heap.size]? = some (.cells #[.int .i64 xk, .string xp, .string xq, .string xd, .int .i64 xt, .int .i64 0, .bool false] 163 (0, 0)) := block_alloc_new _ _
        have HX1 := Lib.hid x1
        have HB1 := Lib.hid hb1
        clear hc hpc hxe hxo hef hTk hFk hmp hmq hx hT hn hbr cpk x1 hE hxk hu hb1
        by_cases hu0 : u.toNat = 0
        · have HNN := Lib.hid (show RcAt w D ks ([lt, ls] ++ rowB lv ++ rowB sv) (k + 1) t (wr.alloc (.cells #[.int .i64 xk, .string xp, .string xq, .string xd, .int .i64 xt, .int .i64 0, .bool false] 163)) from ⟨v, by rw [HSt.out, show pickE D.room _ E u.toNat = _ from if_pos hu0]; exact HT.out.ext HX1.out, HX.out.trans HX1.out, HNB.out⟩)
          rw [hu0] at cp1
          clear HNx
          go_wp2_with (refine wpList_load_at rfl 163 (.tmp 33) rfl g (k * 7) rfl #[.int .i64 xk, .string xp, .string xq, .string xd, .int .i64 xt, .int .i64 0, .bool false] _ HLD.out Tryz.underlying163 rfl (by kernel_rfl) ?_; go_frame)
          go_roundw
          case rel => exact ⟨k + 1, t, by omega, by go_num, rfl, HNN.out⟩
          case measure => simp [intOf] <;> omega
        · by_cases hu1 : u.toNat = 1
          · have HP := Lib.hid (show pickE D.room (crashL D.room D.lasts (D.log.take k) (ks.take k)) E u.toNat = (effE (crashL D.room D.lasts (D.log.take k) (ks.take k)) D.room full E).2 from by unfold pickE; rw [if_neg hu0, if_pos hu1])
            have HN1 := HNx 0 false full _ HX1.out (dataC_full hz 0)
            have hl1 : wr.heap.size < (wr.alloc (.cells #[.int .i64 xk, .string xp, .string xq, .string xd, .int .i64 xt, .int .i64 0, .bool false] 163)).heap.size := by rw [size_alloc]; omega
            rw [hu1] at cp1
            clear HNx hu0 hu1
            go_wp2_with (first | (refine wpList_load_at rfl 163 (.tmp 33) rfl g (k * 7) rfl #[.int .i64 xk, .string xp, .string xq, .string xd, .int .i64 xt, .int .i64 0, .bool false] _ HLD.out Tryz.underlying163 rfl (by kernel_rfl) ?_; go_frame) | (refine wpList_load_row rfl 163 (.tmp 6) rfl wr.heap.size rfl 163 #[.int .i64 xk, .string xp, .string xq, .string xd, .int .i64 xt, .int .i64 0, .bool false] (0, 0) _ HB1.out Tryz.underlying163 rfl (by kernel_rfl) ?_; go_frame))
            refine HN1.out.mono ?_
            rintro e w4 ⟨x4, h4⟩
            have HX4 := Lib.hid ((HX.out.trans HX1.out).trans x4)
            have HT4 := Lib.hid (HT.out.ext (HX1.out.trans x4))
            have hzs := (HX.out.trans HX1.out).size
            clear x4 HN1
            rcases h4 with ⟨he0, t5, v5, rfl, ht5, hg5, hv5⟩ | ⟨hne, rfl⟩
            · have HNN := Lib.hid (show RcAt w D ks ([lt, ls] ++ rowB lv ++ rowB sv) (k + 1) t5 w4 from ⟨v5, by rw [HSt.out, HP.out]; exact ht5, HX4.out, fun b hb => .inr (by
                rcases hb with rfl | hb
                · exact Nat.le_trans hzs hg5
                · exact Nat.le_trans hzs (hv5 b hb))⟩)
              clear ht5 hg5 hv5 he0 hzs
              go_wp2_with fail
              go_roundw
              case rel => exact ⟨k + 1, t5, by omega, by go_num, rfl, HNN.out⟩
              case measure => simp [intOf] <;> omega
            · have HNN := Lib.hid (show RcAt w D ks ([lt, ls] ++ rowB lv ++ rowB sv) (k + 1) t w4 from ⟨v, by rw [HSt.out, HP.out, effE_fail hne]; exact HT4.out, HX4.out, HNB.out⟩)
              obtain ⟨en, hen⟩ : ∃ en, en = (effE (crashL D.room D.lasts (D.log.take k) (ks.take k)) D.room full E).1 := ⟨_, rfl⟩
              rw [← hen] at hne ⊢
              have hne1 : (en == 0) = false := by rw [beq_eq_false_iff_ne]; exact hne
              clear hzs hne hen
              go_wp2_with fail
              go_roundw
              case rel => exact ⟨k + 1, t, by omega, by go_num, rfl, HNN.out⟩
              case measure => simp [intOf] <;> omega
          · obtain ⟨m9, hm9⟩ : ∃ m9, u.toNat = m9 + 2 := ⟨u.toNat - 2, by omega⟩
            have hm255 : m9 ≤ 253 := by have := u.toNat_lt; omega
            have HP := Lib.hid (show pickE D.room (crashL D.room D.lasts (D.log.take k) (ks.take k)) E u.toNat = (effE (crashL D.room D.lasts (D.log.take k) (ks.take k)) D.room m9 E).2 from by unfold pickE; rw [if_neg hu0, if_neg hu1, hm9]; rfl)
            rw [hm9] at cp1
            have cp1' : (wr.alloc (.cells #[.int .i64 xk, .string xp, .string xq, .string xd, .int .i64 xt, .int .i64 0, .bool false] 163)).cell? ⟨gp, op + k, none⟩ = some (.int .u8 ((m9 : Int) + 2)) := by rw [cp1]; simp
            have e0 : ((m9 : Int) + 2 == 0) = false := by rw [beq_eq_false_iff_ne]; omega
            have e1 : decide (1 < (m9 : Int) + 2) = true := by rw [decide_eq_true_eq]; omega
            have wr1 : IntKind.i64.wrap ((m9 : Int) + 2) = (m9 : Int) + 2 := IntWalk.i64_in _ (by omega)
            have wr2 : IntKind.i64.wrap ((m9 : Int) + 2 - 2) = (m9 : Int) := (IntWalk.i64_in _ (by omega)).trans (by omega)
            have wr3 : IntKind.i64.wrap (m9 : Int) = (m9 : Int) := IntWalk.i64_in _ (by omega)
            have x6 : Ext wr (wr.alloc (.cells #[.int .i64 xk, .string xp, .string xq, .string xd, .int .i64 xt, .int .i64 0, .bool true] 163)) := (Ext.refl wr).alloc _
            have cp2 : (wr.alloc (.cells #[.int .i64 xk, .string xp, .string xq, .string xd, .int .i64 xt, .int .i64 0, .bool true] 163)).cell? ⟨gp, op + k, none⟩ = some (.int .u8 ((m9 : Int) + 2)) := ((x6.cell (lt_of_cell cpw)).trans cpw).trans (by rw [hm9]; simp)
            have HB3 := Lib.hid (show (wr.alloc (.cells #[.int .i64 xk, .string xp, .string xq, .string xd, .int .i64 xt, .int .i64 (m9 : Nat), .bool true] 163)).heap[wr.heap.size]? = some (.cells #[.int .i64 xk, .string xp, .string xq, .string xd, .int .i64 xt, .int .i64 (m9 : Nat), .bool true] 163 (0, 0)) from block_alloc_new _ _)
            have HX3 := Lib.hid (show Ext wr (wr.alloc (.cells #[.int .i64 xk, .string xp, .string xq, .string xd, .int .i64 xt, .int .i64 (m9 : Nat), .bool true] 163)) from (Ext.refl wr).alloc _)
            clear x6
            have HN1 := HNx m9 true m9 _ HX3.out rfl
            have HX1 := HX3
            clear HNx hu0 hu1 cp1 hm9 HX3
            go_wp2_with (first | (refine wpList_load_at rfl 163 (.tmp 33) rfl g (k * 7) rfl #[.int .i64 xk, .string xp, .string xq, .string xd, .int .i64 xt, .int .i64 0, .bool false] _ HLD.out Tryz.underlying163 rfl (by kernel_rfl) ?_; go_frame) | (refine wpList_load_row rfl 163 (.tmp 6) rfl wr.heap.size rfl 163 #[.int .i64 xk, .string xp, .string xq, .string xd, .int .i64 xt, .int .i64 (m9 : Nat), .bool true] (0, 0) _ HB3.out Tryz.underlying163 rfl (by kernel_rfl) ?_; go_frame))
            refine HN1.out.mono ?_
            rintro e w4 ⟨x4, h4⟩
            have HX4 := Lib.hid ((HX.out.trans HX1.out).trans x4)
            have HT4 := Lib.hid (HT.out.ext (HX1.out.trans x4))
            have hzs := (HX.out.trans HX1.out).size
            clear x4 HN1
            rcases h4 with ⟨he0, t5, v5, rfl, ht5, hg5, hv5⟩ | ⟨hne, rfl⟩
            · have HNN := Lib.hid (show RcAt w D ks ([lt, ls] ++ rowB lv ++ rowB sv) (k + 1) t5 w4 from ⟨v5, by rw [HSt.out, HP.out]; exact ht5, HX4.out, fun b hb => .inr (by
                rcases hb with rfl | hb
                · exact Nat.le_trans hzs hg5
                · exact Nat.le_trans hzs (hv5 b hb))⟩)
              clear ht5 hg5 hv5 he0 hzs
              go_wp2_with fail
              go_roundw
              case rel => exact ⟨k + 1, t5, by omega, by go_num, rfl, HNN.out⟩
              case measure => simp [intOf] <;> omega
            · have HNN := Lib.hid (show RcAt w D ks ([lt, ls] ++ rowB lv ++ rowB sv) (k + 1) t w4 from ⟨v, by rw [HSt.out, HP.out, effE_fail hne]; exact HT4.out, HX4.out, HNB.out⟩)
              obtain ⟨en, hen⟩ : ∃ en, en = (effE (crashL D.room D.lasts (D.log.take k) (ks.take k)) D.room m9 E).1 := ⟨_, rfl⟩
              rw [← hen] at hne ⊢
              have hne1 : (en == 0) = false := by rw [beq_eq_false_iff_ne]; exact hne
              clear hzs hne hen
              go_wp2_with fail
              go_roundw
              case rel => exact ⟨k + 1, t, by omega, by go_num, rfl, HNN.out⟩
              case measure => simp [intOf] <;> omega
      · have HEq := Lib.hid (show crashL D.room D.lasts (D.log.take k) (ks.take k) = crashL D.room D.lasts D.log ks from crashL_end _ _ _ _ (.inr (by omega)))
        have c0 := cellB (k := 0) hbr
        have c1 := cellB (k := 1) hbr
        have c3 := cellB (k := 3) hbr
        have f0 := frozenB (k := 0) hbr
        have f1 := frozenB (k := 1) hbr
        have f2 := frozenB (k := 2) hbr
        have f3 := frozenB (k := 3) hbr
        have HEnd := fun W hW => Lib.hid (rcrash_end (W := W) HIn.out hT hx hn (HEq.out) hW)
        clear hT hx hn hbr
        go_wp2_with fail
        go_end0
        rw [HM.out, HI.out]
        exact ⟨rfl, _, _, (HEnd _ rfl).out⟩
    · obtain rfl : k = n := by omega
      have nlt : decide ((k : Int) < (k : Int)) = false := by simp
      have HEq := Lib.hid (show crashL D.room D.lasts (D.log.take k) (ks.take k) = crashL D.room D.lasts D.log ks from crashL_end _ _ _ _ (.inl (by rw [← HN.out]; exact Nat.le_refl _)))
      have c0 := cellB (k := 0) hbr
      have c1 := cellB (k := 1) hbr
      have c3 := cellB (k := 3) hbr
      have f0 := frozenB (k := 0) hbr
      have f1 := frozenB (k := 1) hbr
      have f2 := frozenB (k := 2) hbr
      have f3 := frozenB (k := 3) hbr
      have HEnd := fun W hW => Lib.hid (rcrash_end (W := W) HIn.out hT hx hn (HEq.out) hW)
      clear hT hx hn hbr
      go_wp2_with fail
      go_end0
      rw [HM.out, HI.out]
      exact ⟨rfl, _, _, (HEnd _ rfl).out⟩
end Go.Proofs.YtldppmjjgljinaaGreatDoor

namespace Go.Proofs.YtldppmjjgljinaaGreatDoor
open Go.RowKit

/-- A copy of nothing as a step of a region that draws. -/
theorem step_copy_none {P : Program} {ops : Array Oper} {o : Oper} {a : Act} {w : World} {K : Act → World → Prop} {Q : Exit → Act → World → Prop} {E : Prop} (hgd : o.guard = none) (d s : Operand) (dT sT : TypeId)
    (ho : o.op = .call { callee := .builtin .copy, args := #[d, s], argTypes := #[dT, sT] }) (elem : TypeId) (hu : P.underlying dT = some (.slice elem)) (hsz : (P.info? elem).map (·.size) = some 1)
    {dp sp : Option Addr} {dLen dCap sLen sCap : Nat} (hd : a.eval d = .slice dp dLen dCap) (hs : a.eval s = .slice sp sLen sCap) (hn : Nat.min sLen dLen = 0) (h : K (a.put o.dst (goInt 0)) w) :
    if Region.wanted o (yielded ops a.tmps) = true then Oper.wp P o a w K Q else E := by
  have hw : Region.wanted o (yielded ops a.tmps) = true := by simp [Region.wanted, hgd]
  rw [if_pos hw]
  have hrun := run_copy_none (P := P) w dT sT o.type elem dp sp dLen dCap sLen sCap hu hsz hn
  unfold Oper.wp
  simp [execOp, ho, resolve, invoke, builtin, hd, hs, hrun, Result.andThen]
  exact h
/-- Behind k nodes. -/
def KdAt (w0 : World) (l : Nodes) (p : ByteArray) (k : Nat) (v : Value) (wr : World) : Prop := wr.ownsRow w0.heap.size 9 1 v (kidsL (l.take k) p).length ((kidsL (l.take k) p).map Value.string) ∧ Ext w0 wr

set_option maxRecDepth 100000 in
set_option maxHeartbeats 8000000 in
theorem rlist_any {w : World} {r : Nat} {M I : List Nat} {D : Dk} (h : RkAt w r M I D) (O : DkOk D) (p : ByteArray) (hp : p.size < 4294967200) :
    Calls Tryz.prog 106 #[.pointer (some ⟨r, 0, none⟩), .string p] w (ListPost w (listE D.live p)) := by
  obtain ⟨lt, ls, lv, sv, lg, h, -, -⟩ := h
  have c0 : w.cell? ⟨r, 0, none⟩ = some (.pointer (some ⟨lt, 0, none⟩)) := cellB h.blk
  have hrl := ltB h.blk
  have HT := Lib.hid h.live
  have HM := fun w' => Lib.hid (refMay_any p w' (by omega))
  have hlen : D.live.length ≤ 16384 := by have := len_used D.live; have := O.live.used; have := O.r2; omega
  have HK := fun w' (x : Ext w w') => Lib.hid (rkind_any lt lv D.live D.room p w' (h.live.ext x) (by omega))
  have HR := Lib.hid (show listE D.live p = if p.toList.isEmpty || mayB p then (if dirE D.live p = 0 then (listS D.live p, 0) else ([], dirE D.live p)) else ([], 10) from rfl)
  have HDr := Lib.hid (show dirE D.live p = if kindAt D.live p = 0 then 5 else if kindAt D.live p = 2 then 0 else 12 from rfl)
  have HKd := Lib.hid (list_kids O.live p)
  have HLs := Lib.hid (fun k x (hx : D.live[k]? = some x) hp => kids_last O.live (p := p) (k := k) (x := x) hx hp)
  have HNm := Lib.hid (fun x (hx : x ∈ D.live) hp => name_cut (p := p) (O.live.may x hx) hp)
  have HMy := Lib.hid O.live.may
  obtain ⟨n, hn⟩ : ∃ n, n = D.live.length := ⟨_, rfl⟩
  have HL := Lib.hid hn
  rw [← hn] at hlen
  clear h O hn
  have hsz9 : (Tryz.prog.info? 9).map (·.size) = some 1 := by kernel_rfl
  generalize listE D.live p = R at *
  generalize D.live = l at *
  generalize D.room = room at *
  obtain ⟨kd, hkd⟩ : ∃ kd, kd = kindAt l p := ⟨_, rfl⟩
  rw [← hkd] at HK HDr
  clear hkd
  cases hem : p.toList.isEmpty with
  | true =>
    have hem2 : (!p.toList.isEmpty) = false := by rw [hem]; rfl
    have HR2 := Lib.hid (HR.out.trans (if_pos (by rw [hem]; rfl)))
    have HXc := Lib.hid (Ext.refl w)
    go_enter Tryz.func106, Tryz.ntmps106
    go_wp2_with fail
    refine (HK _ HXc.out).out.mono ?_
    rintro e w2 ⟨rfl, hw⟩
    obtain rfl := hw.symm
    clear hw HK
    by_cases k0 : kd = 0
    · subst k0
      have HR3 := Lib.hid (show R = ([], 5) from by rw [HR2.out, HDr.out]; rfl)
      go_wp2_with fail
      go_ret2
      exact ListPost.none HR3.out HXc.out
    · have k0' : (kd == 0) = false := by rw [beq_eq_false_iff_ne]; exact k0
      by_cases k2 : kd = 2
      · subst k2
        have HR3 := Lib.hid (show R = (kidsL l p, 0) from by rw [HR2.out, HDr.out, HKd.out]; rfl)
        clear HR2 HDr HKd HR
        go_wp2_with fail
        go_loopw [7, 8] (fun ov iv wr => Hid (∃ k : Nat, k ≤ n ∧ iv = .int .i64 k ∧ KdAt w l p k ov wr)) (fun _ iv _ => n - (intOf iv).toNat)
        case atStart => exact ⟨0, Nat.zero_le _, rfl, World.ownsRow_nil _ _ _ _, Ext.refl _⟩
        case round =>
          obtain ⟨k, hk, rfl, ho, hx⟩ := hrel.out
          clear hrel
          have HX := Lib.hid hx
          have HO := Lib.hid ho
          have hxw := HXc.out.trans hx
          have d0 := (hxw.cell hrl).trans c0
          have HTr := HT.out.ext hxw
          have ct := cellB (k := 0) HTr.blk
          obtain ⟨a, cap, ev, hv1, hv2, hv3⟩ := HTr.shape
          rw [ev, ← HL.out] at ct
          rw [← HL.out] at hv1
          have hkl : (kidsL (l.take k) p).length ≤ n := HL.out ▸ kids_len l p k
          obtain ⟨oa, ocap, rfl, _, ho1, ho2, _⟩ := row_slice ho
          unfold maxLen at ho2
          by_cases hlt : k < n
          · obtain ⟨x, hxk⟩ : ∃ x, l[k]? = some x := ⟨_, List.getElem?_eq_getElem (by have := HL.out; omega)⟩
            obtain ⟨g, rfl, hgl, hc⟩ := hv3 k x hxk
            have e0 : wr.cell? ⟨g, k * 5, none⟩ = some (.string x.1) := hc 0 _ rfl
            have hxm := List.mem_of_getElem? hxk
            have hxz := mayB_size (HMy.out x hxm)
            have HPa := Lib.hid (rparent_any x.1 wr (by omega))
            have HTk := Lib.hid (kids_take (p := p) hxk)
            have HLx := Lib.hid (HLs.out k x hxk)
            have HNx := Lib.hid (HNm.out x hxm)
            obtain ⟨xp, xn⟩ := x
            dsimp only at e0 hxz HPa HTk HLx HNx
            obtain ⟨K, hK⟩ : ∃ K, K = kidsL (l.take k) p := ⟨_, rfl⟩
            rw [← hK] at HO HTk HLx hkl ho1 ⊢
            clear hc hxk hxm ho hx HTr ev hv3 hxw hK HNm HLs HMy
            obtain ⟨m, hm⟩ : ∃ m, m = K.length := ⟨_, rfl⟩
            have HMm := Lib.hid hm
            rw [← hm] at HO hkl ho1 ⊢
            clear hm
            by_cases hup : parentR xp = p
            · have u1 : ((parentR xp).toList == p.toList) = true := by rw [hup]; simp
              have HLx2 := Lib.hid (HLx.out hup)
              have HNy := Lib.hid (HNx.out hup)
              have HTk2 := Lib.hid (HTk.out.trans (by rw [if_pos hup]))
              clear HTk HLx hup HNx
              have hcx := HNy.out.1 hem
              generalize parentR xp = up at *
              obtain ⟨nm, hnm⟩ : ∃ nm, nm = baseR xp := ⟨_, rfl⟩
              rw [← hnm] at HLx2 HTk2 HNy hcx
              clear hnm

              go_wp2_with fail
              refine HPa.out.mono ?_
              rintro e w5 ⟨rfl, x5⟩
              have HX5 := Lib.hid (HX.out.trans x5)
              have HO5 := Lib.hid (owns_ext HO.out x5)
              clear x5 HPa HO
              go_wp2_with fail
              subst hcx
              go_loop [10] (fun av => ∃ j : Nat, j ≤ m ∧ av = .int .i64 j) (fun av => m - (intOf av).toNat)
              case atStart => exact ⟨0, Nat.zero_le _, rfl⟩
              case round =>
                obtain ⟨j, hj, rfl⟩ := hrel
                by_cases hjm : j < m
                · obtain ⟨y, hy⟩ : ∃ y, K[j]? = some y := ⟨_, List.getElem?_eq_getElem (by have := HMm.out; omega)⟩
                  obtain ⟨_, _, e9, _, _, _, hoc⟩ := row_slice HO5.out
                  cases e9
                  obtain ⟨g2, rfl, _, _, ck⟩ := hoc j (.string y) (by rw [List.getElem?_map, hy]; rfl)
                  have hle := HLx2.out y (List.mem_of_getElem? hy)
                  clear hoc hy
                  go_wp2_with fail
                  go_round
                  case rel => exact ⟨j + 1, by omega, by go_num⟩
                  case measure => simp [intOf]; omega
                · obtain rfl : j = m := by omega
                  have njt : decide ((j : Int) < (j : Int)) = false := by simp
                  have hw5 := HX5.out.size
                  go_wp2_with (at_builtin; refine append_one el_string w.heap.size _ _ _ (HO5.out.alloc _) w5.heap.size (.string ⟨#[]⟩) (.tmp 78) (.tmp 79) rfl rfl rfl rfl (by rw [cell_alloc_new rfl]; rfl) rfl (by omega) (by simp; omega) ?_)
                  intro v' w6 hown6 hg6 hrow6
                  obtain ⟨g6, cap6, rfl, hg6b, hg6l, hc6, hc6'⟩ := hrow6
                  unfold maxLen at hc6'
                  have HX6 := Lib.hid (grown_ext (HX5.out.alloc _) (Nat.le_refl _) (HO5.out.alloc _) hg6)
                  have ck := hown6.cellAt j (by omega)
                  rw [List.getElem?_append_right (by simp [HMm.out]), List.length_map, ← HMm.out, Nat.sub_self] at ck
                  have fk := hown6.frozenAt j
                  have HO6 := Lib.hid hown6
                  have s2 : (0 : Int) ≤ (j : Int) + 1 := by omega
                  have s3 : (j : Int) ≤ (j : Int) + 1 := by omega
                  have s4 : ¬ cap6 = j := by omega
                  have s1 : IntKind.i64.wrap ((j : Int) + 1) = (j : Int) + 1 := IntWalk.i64_in _ (by omega)
                  clear hown6 hg6 hw5
                  go_wp2_with fail
                  go_region_law
                   (refine step_copy_none (dp := if cap6 = j + 1 then some ⟨g6, 0, none⟩ else some ⟨g6, j + 1, none⟩) (sp := some ⟨g6, j, none⟩) (dLen := 0) (dCap := cap6 - (j + 1)) (sLen := 1) (sCap := cap6 - j) rfl (.tmp 84) (.tmp 87) 54 54 rfl 9 Tryz.underlying54 hsz9 ?_ ?_ rfl ?_
                    · simp [Act.eval, Act.put]
                    · simp [Act.eval, Act.put])
                  all_goals
                    go_wp2_with fail
                    go_roundw
                    case rel => exact ⟨k + 1, by omega, by go_num, by
                      unfold KdAt
                      rw [HTk2.out]
                      have hod := owns_ext HO6.out ((Ext.refl w6).drew)
                      have hst := hod.stored j (Value.string nm)
                      have e9 : ((K.map Value.string) ++ [Value.string ⟨#[]⟩]).set j (Value.string nm) = (K ++ [nm]).map Value.string := by
                        have hj9 := HMm.out
                        subst hj9
                        rw [List.set_append_right _ _ (by simp)]
                        simp
                      rw [e9] at hst
                      rw [show (K ++ [nm]).length = j + 1 from by simp [HMm.out]]
                      exact ⟨hst.1, grown_ext (HX6.out.drew) (Nat.le_refl _) hod hst.2⟩⟩
                    case measure => simp [intOf] <;> omega
            · have u1 : ((parentR xp).toList == p.toList) = false := by simpa using fun e => hup (ba_ext e)
              have HTk2 := Lib.hid (HTk.out.trans (by rw [if_neg hup, List.append_nil]))
              clear HTk HLx HNx hup
              go_wp2_with fail
              refine HPa.out.mono ?_
              rintro e w5 ⟨rfl, x5⟩
              have HX5 := Lib.hid (HX.out.trans x5)
              have HO5 := Lib.hid (owns_ext HO.out x5)
              clear x5 HPa HO
              go_wp2_with fail
              go_roundw
              case rel => exact ⟨k + 1, by omega, by go_num, by unfold KdAt; rw [HTk2.out, ← HMm.out]; exact ⟨HO5.out, HX5.out⟩⟩
              case measure => simp [intOf] <;> omega
          · obtain rfl : k = n := by omega
            have nlt : decide ((k : Int) < (k : Int)) = false := by simp
            have HTK := Lib.hid (show l.take k = l from by rw [HL.out, List.take_length])
            clear ho hx HTr ev hv3 hxw
            go_wp2_with fail
            go_ret2
            have ho := HO.out
            rw [HTK.out] at ho ⊢
            rw [HR3.out]
            exact ⟨_, rfl, owns_base ho HXc.out.size, HXc.out.trans HX.out⟩
      · have k2' : (kd == 2) = false := by rw [beq_eq_false_iff_ne]; exact k2
        have k2'' : (!(kd == 2)) = true := by rw [k2']; rfl
        have HR3 := Lib.hid (show R = ([], 12) from by rw [HR2.out, HDr.out, if_neg k0, if_neg k2]; rfl)
        go_wp2_with fail
        go_ret2
        exact ListPost.none HR3.out HXc.out
  | false =>
    have hem2 : (!p.toList.isEmpty) = true := by rw [hem]; rfl
    cases hm : mayB p with
    | false =>
      rw [hm] at HM
      have HR2 := Lib.hid (HR.out.trans (if_neg (by rw [hem, hm]; decide)))
      go_enter Tryz.func106, Tryz.ntmps106
      go_wp2_with fail
      refine (HM _).out.mono ?_
      rintro e w1 ⟨rfl, x1⟩
      have HXc := Lib.hid x1
      clear x1
      go_wp2_with fail
      go_ret2
      exact ListPost.none HR2.out HXc.out
    | true =>
      rw [hm] at HM
      have HR2 := Lib.hid (HR.out.trans (if_pos (by rw [hm, Bool.or_true])))
      go_enter Tryz.func106, Tryz.ntmps106
      go_wp2_with fail
      refine (HM _).out.mono ?_
      rintro e w1 ⟨rfl, x1⟩
      have HXc := Lib.hid x1
      have c01 := (x1.cell hrl).trans c0
      clear x1
      go_wp2_with fail
      refine (HK _ HXc.out).out.mono ?_
      rintro e w2 ⟨rfl, hw⟩
      obtain rfl := hw.symm
      clear hw HK
      by_cases k0 : kd = 0
      · subst k0
        have HR3 := Lib.hid (show R = ([], 5) from by rw [HR2.out, HDr.out]; rfl)
        go_wp2_with fail
        go_ret2
        exact ListPost.none HR3.out HXc.out
      · have k0' : (kd == 0) = false := by rw [beq_eq_false_iff_ne]; exact k0
        by_cases k2 : kd = 2
        · subst k2
          have HR3 := Lib.hid (show R = (kidsL l p, 0) from by rw [HR2.out, HDr.out, HKd.out]; rfl)
          clear HR2 HDr HKd HR
          go_wp2_with fail
          go_loopw [7, 8] (fun ov iv wr => Hid (∃ k : Nat, k ≤ n ∧ iv = .int .i64 k ∧ KdAt w1 l p k ov wr)) (fun _ iv _ => n - (intOf iv).toNat)
          case atStart => exact ⟨0, Nat.zero_le _, rfl, World.ownsRow_nil _ _ _ _, Ext.refl _⟩
          case round =>
            obtain ⟨k, hk, rfl, ho, hx⟩ := hrel.out
            clear hrel
            have HX := Lib.hid hx
            have HO := Lib.hid ho
            have hxw := HXc.out.trans hx
            have d0 := (hxw.cell hrl).trans c0
            have HTr := HT.out.ext hxw
            have ct := cellB (k := 0) HTr.blk
            obtain ⟨a, cap, ev, hv1, hv2, hv3⟩ := HTr.shape
            rw [ev, ← HL.out] at ct
            rw [← HL.out] at hv1
            have hkl : (kidsL (l.take k) p).length ≤ n := HL.out ▸ kids_len l p k
            obtain ⟨oa, ocap, rfl, _, ho1, ho2, _⟩ := row_slice ho
            unfold maxLen at ho2
            by_cases hlt : k < n
            · obtain ⟨x, hxk⟩ : ∃ x, l[k]? = some x := ⟨_, List.getElem?_eq_getElem (by have := HL.out; omega)⟩
              obtain ⟨g, rfl, hgl, hc⟩ := hv3 k x hxk
              have e0 : wr.cell? ⟨g, k * 5, none⟩ = some (.string x.1) := hc 0 _ rfl
              have hxm := List.mem_of_getElem? hxk
              have hxz := mayB_size (HMy.out x hxm)
              have HPa := Lib.hid (rparent_any x.1 wr (by omega))
              have HTk := Lib.hid (kids_take (p := p) hxk)
              have HLx := Lib.hid (HLs.out k x hxk)
              have HNx := Lib.hid (HNm.out x hxm)
              obtain ⟨xp, xn⟩ := x
              dsimp only at e0 hxz HPa HTk HLx HNx
              obtain ⟨K, hK⟩ : ∃ K, K = kidsL (l.take k) p := ⟨_, rfl⟩
              rw [← hK] at HO HTk HLx hkl ho1 ⊢
              clear hc hxk hxm ho hx HTr ev hv3 hxw hK HNm HLs HMy
              obtain ⟨m, hm⟩ : ∃ m, m = K.length := ⟨_, rfl⟩
              have HMm := Lib.hid hm
              rw [← hm] at HO hkl ho1 ⊢
              clear hm
              by_cases hup : parentR xp = p
              · have u1 : ((parentR xp).toList == p.toList) = true := by rw [hup]; simp
                have HLx2 := Lib.hid (HLx.out hup)
                have HNy := Lib.hid (HNx.out hup)
                have HTk2 := Lib.hid (HTk.out.trans (by rw [if_pos hup]))
                clear HTk HLx hup HNx

                generalize parentR xp = up at *
                obtain ⟨nm, hnm⟩ : ∃ nm, nm = baseR xp := ⟨_, rfl⟩
                rw [← hnm] at HLx2 HTk2 HNy
                clear hnm
                have hcx := (HNy.out.2 hem).1
                have q1 : IntKind.i64.wrap ((p.size : Int) + 1) = (p.size : Int) + 1 := IntWalk.i64_in _ (by omega)
                have q2 : (p.size : Int) + 1 ≤ (xp.size : Int) := by have := (HNy.out.2 hem).2; omega
                have q3 : (0 : Int) ≤ (p.size : Int) + 1 := by omega
                go_wp2_with fail
                refine HPa.out.mono ?_
                rintro e w5 ⟨rfl, x5⟩
                have HX5 := Lib.hid (HX.out.trans x5)
                have HO5 := Lib.hid (owns_ext HO.out x5)
                clear x5 HPa HO
                go_wp2_with fail
                clear q1 q2 q3 hcx
                go_loop [10] (fun av => ∃ j : Nat, j ≤ m ∧ av = .int .i64 j) (fun av => m - (intOf av).toNat)
                case atStart => exact ⟨0, Nat.zero_le _, rfl⟩
                case round =>
                  obtain ⟨j, hj, rfl⟩ := hrel
                  by_cases hjm : j < m
                  · obtain ⟨y, hy⟩ : ∃ y, K[j]? = some y := ⟨_, List.getElem?_eq_getElem (by have := HMm.out; omega)⟩
                    obtain ⟨_, _, e9, _, _, _, hoc⟩ := row_slice HO5.out
                    cases e9
                    obtain ⟨g2, rfl, _, _, ck⟩ := hoc j (.string y) (by rw [List.getElem?_map, hy]; rfl)
                    have hle := HLx2.out y (List.mem_of_getElem? hy)
                    clear hoc hy
                    go_wp2_with fail
                    go_round
                    case rel => exact ⟨j + 1, by omega, by go_num⟩
                    case measure => simp [intOf]; omega
                  · obtain rfl : j = m := by omega
                    have njt : decide ((j : Int) < (j : Int)) = false := by simp
                    have hw5 := HX5.out.size
                    go_wp2_with (at_builtin; refine append_one el_string w1.heap.size _ _ _ (HO5.out.alloc _) w5.heap.size (.string ⟨#[]⟩) (.tmp 78) (.tmp 79) rfl rfl rfl rfl (by rw [cell_alloc_new rfl]; rfl) rfl (by omega) (by simp; omega) ?_)
                    intro v' w6 hown6 hg6 hrow6
                    obtain ⟨g6, cap6, rfl, hg6b, hg6l, hc6, hc6'⟩ := hrow6
                    unfold maxLen at hc6'
                    have HX6 := Lib.hid (grown_ext (HX5.out.alloc _) (Nat.le_refl _) (HO5.out.alloc _) hg6)
                    have ck := hown6.cellAt j (by omega)
                    rw [List.getElem?_append_right (by simp [HMm.out]), List.length_map, ← HMm.out, Nat.sub_self] at ck
                    have fk := hown6.frozenAt j
                    have HO6 := Lib.hid hown6
                    have s2 : (0 : Int) ≤ (j : Int) + 1 := by omega
                    have s3 : (j : Int) ≤ (j : Int) + 1 := by omega
                    have s4 : ¬ cap6 = j := by omega
                    have s1 : IntKind.i64.wrap ((j : Int) + 1) = (j : Int) + 1 := IntWalk.i64_in _ (by omega)
                    clear hown6 hg6 hw5
                    go_wp2_with fail
                    go_region_law
                     (refine step_copy_none (dp := if cap6 = j + 1 then some ⟨g6, 0, none⟩ else some ⟨g6, j + 1, none⟩) (sp := some ⟨g6, j, none⟩) (dLen := 0) (dCap := cap6 - (j + 1)) (sLen := 1) (sCap := cap6 - j) rfl (.tmp 84) (.tmp 87) 54 54 rfl 9 Tryz.underlying54 hsz9 ?_ ?_ rfl ?_
                      · simp [Act.eval, Act.put]
                      · simp [Act.eval, Act.put])
                    all_goals
                      go_wp2_with fail
                      go_roundw
                      case rel => exact ⟨k + 1, by omega, by go_num, by
                        unfold KdAt
                        rw [HTk2.out]
                        have hod := owns_ext HO6.out ((Ext.refl w6).drew)
                        have hst := hod.stored j (Value.string nm)
                        have e9 : ((K.map Value.string) ++ [Value.string ⟨#[]⟩]).set j (Value.string nm) = (K ++ [nm]).map Value.string := by
                          have hj9 := HMm.out
                          subst hj9
                          rw [List.set_append_right _ _ (by simp)]
                          simp
                        rw [e9] at hst
                        rw [show (K ++ [nm]).length = j + 1 from by simp [HMm.out]]
                        exact ⟨hst.1, grown_ext (HX6.out.drew) (Nat.le_refl _) hod hst.2⟩⟩
                      case measure => simp [intOf] <;> omega
              · have u1 : ((parentR xp).toList == p.toList) = false := by simpa using fun e => hup (ba_ext e)
                have HTk2 := Lib.hid (HTk.out.trans (by rw [if_neg hup, List.append_nil]))
                clear HTk HLx HNx hup
                go_wp2_with fail
                refine HPa.out.mono ?_
                rintro e w5 ⟨rfl, x5⟩
                have HX5 := Lib.hid (HX.out.trans x5)
                have HO5 := Lib.hid (owns_ext HO.out x5)
                clear x5 HPa HO
                go_wp2_with fail
                go_roundw
                case rel => exact ⟨k + 1, by omega, by go_num, by unfold KdAt; rw [HTk2.out, ← HMm.out]; exact ⟨HO5.out, HX5.out⟩⟩
                case measure => simp [intOf] <;> omega
            · obtain rfl : k = n := by omega
              have nlt : decide ((k : Int) < (k : Int)) = false := by simp
              have HTK := Lib.hid (show l.take k = l from by rw [HL.out, List.take_length])
              clear ho hx HTr ev hv3 hxw
              go_wp2_with fail
              go_ret2
              have ho := HO.out
              rw [HTK.out] at ho ⊢
              rw [HR3.out]
              exact ⟨_, rfl, owns_base ho HXc.out.size, HXc.out.trans HX.out⟩
        · have k2' : (kd == 2) = false := by rw [beq_eq_false_iff_ne]; exact k2
          have k2'' : (!(kd == 2)) = true := by rw [k2']; rfl
          have HR3 := Lib.hid (show R = ([], 12) from by rw [HR2.out, HDr.out, if_neg k0, if_neg k2]; rfl)
          go_wp2_with fail
          go_ret2
          exact ListPost.none HR3.out HXc.out

set_option maxRecDepth 100000 in
set_option maxHeartbeats 2000000 in
theorem rsame_true (l : List ByteArray) (a b : Option Addr) (c1 c2 : Nat) (w : World) (h1 : TextsOwn w (.slice a l.length c1) l) (h2 : TextsOwn w (.slice b l.length c2) l) (q1 : l.length ≤ c1) (q2 : c1 ≤ 9223372036854775807) :
    Calls Tryz.prog 107 #[.slice a l.length c1, .slice b l.length c2] w fun e w' => e = .returned (.bool true) ∧ Ext w w' := by
  have HG1 := Lib.hid (h1.get a _ _ rfl)
  have HG2 := Lib.hid (h2.get b _ _ rfl)
  obtain ⟨n, hn⟩ : ∃ n, n = l.length := ⟨_, rfl⟩
  have HL := Lib.hid hn
  rw [← hn] at q1 ⊢
  clear h1 h2 hn
  go_enter Tryz.func107, Tryz.ntmps107
  go_wp2_with fail
  go_loopw [5] (fun iv wr => Hid (∃ k : Nat, k ≤ n ∧ iv = .int .i64 k ∧ Ext w wr)) (fun iv _ => n - (intOf iv).toNat)
  case atStart => exact ⟨0, Nat.zero_le _, rfl, Ext.refl _⟩
  case round =>
    obtain ⟨k, hk, rfl, hx⟩ := hrel.out
    clear hrel
    have HX := Lib.hid hx
    by_cases hlt : k < n
    · obtain ⟨y, hy⟩ : ∃ y, l[k]? = some y := ⟨_, List.getElem?_eq_getElem (by have := HL.out; omega)⟩
      obtain ⟨g1, rfl, ck1⟩ := HG1.out k y hy
      obtain ⟨g2, rfl, ck2⟩ := HG2.out k y hy
      have ck1 := (hx.cell (lt_of_cell ck1)).trans ck1
      have ck2 := (hx.cell (lt_of_cell ck2)).trans ck2
      clear hx hy
      go_wp2_with fail
      go_quiet (fail)
      go_wp2_with fail
      go_roundw
      case rel => exact ⟨k + 1, by omega, by go_num, HX.out.drewN _⟩
      case measure => simp [intOf] <;> omega
    · obtain rfl : k = n := by omega
      have nlt : decide ((k : Int) < (k : Int)) = false := by simp
      clear hx
      go_wp2_with fail
      go_ret
      exact ⟨rfl, HX.out⟩
end Go.Proofs.YtldppmjjgljinaaGreatDoor
