/- Drafts that are none: contracts; Put beyond the blocks; Name. -/
import Derived.Test.YtldppmjjgljinaaGreatDoorLawTpD
namespace Go.Proofs.YtldppmjjgljinaaGreatDoor
open Go.RowKit

/-- Open did not make it. -/
def NoDr (w : World) (pa : Option Addr) : Prop := ∀ w', Ext w w' → Calls Tryz.prog 79 #[.pointer pa] w' fun e w'' => e = .returned (.bool false) ∧ w'' = w'
theorem NoDr.nil (w : World) : NoDr w none := fun w' _ => tis_nil w'
theorem NoDr.zero {w : World} {b : Nat} {D : Array Value} {t : TypeId} {fr : Nat × Nat} (h : w.heap[b]? = some (.cells D t fr)) (hn : D[27]? = some (.string ⟨#[]⟩)) : NoDr w (some ⟨b, 0, none⟩) := fun w' x => by
  have := tis_any w' b D t fr ⟨#[]⟩ ((x.block (ltB h)).trans h) hn
  rw [show (!(⟨#[]⟩ : ByteArray).toList.isEmpty) = false from by rw [show (⟨#[]⟩ : ByteArray).toList = [] from toList_mk []]; rfl] at this
  exact this
theorem NoDr.ext {w w' : World} {pa : Option Addr} (h : NoDr w pa) (x : Ext w w') : NoDr w' pa := fun w'' y => h w'' (x.trans y)
section
variable {w : World} {pa : Option Addr} (h : NoDr w pa)
include h
set_option maxRecDepth 100000 in
theorem put_no (i : Int) (x : Value) : Calls Tryz.prog 16 #[.pointer pa, .int .i64 i, x] w fun e w' => e = .returned (.int .i64 1) ∧ w' = w := by
  have HI := Lib.hid (h w (Ext.refl w))
  clear h
  go_enter Tryz.func16, Tryz.ntmps16
  go_wp2_with fail
  refine HI.out.mono ?_
  rintro e w1 ⟨rfl, hw⟩
  obtain rfl := hw.symm
  clear hw
  go_wp2_with fail
  go_ret
  exact ⟨rfl, rfl⟩
set_option maxRecDepth 100000 in
theorem save_no (dv : Value) : Calls Tryz.prog 18 #[.pointer pa, dv] w fun e w' => e = .returned (.int .i64 1) ∧ w' = w := by
  have HI := Lib.hid (h w (Ext.refl w))
  clear h
  go_enter Tryz.func18, Tryz.ntmps18
  go_wp2_with fail
  refine HI.out.mono ?_
  rintro e w1 ⟨rfl, hw⟩
  obtain rfl := hw.symm
  clear hw
  go_wp2_with fail
  go_ret
  exact ⟨rfl, rfl⟩
set_option maxRecDepth 100000 in
theorem drop_no (dv : Value) : Calls Tryz.prog 48 #[.pointer pa, dv] w fun e w' => e = .returned (.int .i64 1) ∧ w' = w := by
  have HI := Lib.hid (h w (Ext.refl w))
  clear h
  go_enter Tryz.func48, Tryz.ntmps48
  go_wp2_with fail
  refine HI.out.mono ?_
  rintro e w1 ⟨rfl, hw⟩
  obtain rfl := hw.symm
  clear hw
  go_wp2_with fail
  go_ret
  exact ⟨rfl, rfl⟩
set_option maxRecDepth 100000 in
theorem name_no : Calls Tryz.prog 70 #[.pointer pa] w fun e w' => e = .returned (.string ⟨#[]⟩) ∧ w' = w := by
  have HI := Lib.hid (h w (Ext.refl w))
  clear h
  go_enter Tryz.func70, Tryz.ntmps70
  go_wp2_with fail
  refine HI.out.mono ?_
  rintro e w1 ⟨rfl, hw⟩
  obtain rfl := hw.symm
  clear hw
  go_wp2_with fail
  go_ret
  exact ⟨rfl, rfl⟩
set_option maxRecDepth 100000 in
theorem have_no : Calls Tryz.prog 19 #[.pointer pa] w fun e w' => e = .returned (.slice none 0 0) ∧ Ext w w' := by
  have HI := Lib.hid (h _ ((Ext.refl w).alloc (.cells #[.pointer pa] 33)))
  clear h
  go_enter Tryz.func19, Tryz.ntmps19
  go_wp2_with fail
  refine HI.out.mono ?_
  rintro e w1 ⟨rfl, hw⟩
  obtain rfl := hw.symm
  clear hw
  go_wp2_with fail
  go_ret
  exact ⟨rfl, (Ext.refl w).alloc _⟩
set_option maxRecDepth 100000 in
theorem asked_no : Calls Tryz.prog 21 #[.pointer pa] w fun e w' => e = .returned (.slice none 0 0) ∧ Ext w w' := by
  have HI := Lib.hid (h _ ((Ext.refl w).alloc (.cells #[.pointer pa] 33)))
  clear h
  go_enter Tryz.func21, Tryz.ntmps21
  go_wp2_with fail
  refine HI.out.mono ?_
  rintro e w1 ⟨rfl, hw⟩
  obtain rfl := hw.symm
  clear hw
  go_wp2_with fail
  go_ret
  exact ⟨rfl, (Ext.refl w).alloc _⟩
set_option maxRecDepth 100000 in
theorem done_no : Calls Tryz.prog 24 #[.pointer pa] w fun e w' => e = .returned (.bool false) ∧ w' = w := by
  have HI := Lib.hid (h w (Ext.refl w))
  clear h
  go_enter Tryz.func24, Tryz.ntmps24
  go_wp2_with fail
  refine HI.out.mono ?_
  rintro e w1 ⟨rfl, hw⟩
  obtain rfl := hw.symm
  clear hw
  go_wp2_with fail
  go_ret
  exact ⟨rfl, rfl⟩
set_option maxRecDepth 100000 in
theorem data_no : Calls Tryz.prog 22 #[.pointer pa] w fun e w' => e = .returned (.tuple #[.slice none 0 0, .bool false]) ∧ w' = w := by
  have HI := Lib.hid (done_no h)
  clear h
  go_enter Tryz.func22, Tryz.ntmps22
  go_wp2_with fail
  refine HI.out.mono ?_
  rintro e w1 ⟨rfl, hw⟩
  obtain rfl := hw.symm
  clear hw
  go_wp2_with fail
  go_ret2
  exact ⟨rfl, rfl⟩
end
section
variable {w0 w : World} {A B : List Thing} {p : Nat} {r : RecS} {N : Nat} {name : ByteArray} {ps : List (Option (List UInt8))} (h : Things w0 w (A ++ .draft p r N name ps :: B)) (hnm : name.toList.isEmpty = false)
include h hnm
set_option maxRecDepth 100000 in
theorem name_many : Calls Tryz.prog 70 #[.pointer (some ⟨p, 0, none⟩)] w fun e w' => e = .returned (.string name) ∧ w' = w := draft_ext h fun g D cs bl I hd => by
  have HI := Lib.hid (tis_any w p D _ _ name hd.blk hd.c27)
  rw [hnm] at HI
  have k27 := (cellB (k := 27) hd.blk).trans hd.c27
  clear h hd
  go_enter Tryz.func70, Tryz.ntmps70
  go_wp2_with fail
  refine HI.out.mono ?_
  rintro e w1 ⟨rfl, hw⟩
  obtain rfl := hw.symm
  clear hw
  go_wp2_with fail
  go_ret
  exact ⟨rfl, rfl⟩
set_option maxRecDepth 100000 in
theorem save_nil : Calls Tryz.prog 18 #[.pointer (some ⟨p, 0, none⟩), .pointer none] w fun e w' => e = .returned (.int .i64 1) ∧ w' = w := draft_ext h fun g D cs bl I hd => by
  have HI := Lib.hid (tis_any w p D _ _ name hd.blk hd.c27)
  rw [hnm] at HI
  clear h hd
  go_enter Tryz.func18, Tryz.ntmps18
  go_wp2_with fail
  refine HI.out.mono ?_
  rintro e w1 ⟨rfl, hw⟩
  obtain rfl := hw.symm
  clear hw
  go_wp2_with fail
  go_ret
  exact ⟨rfl, rfl⟩
set_option maxRecDepth 100000 in
theorem put_out (i : Nat) (hi : countN N ≤ i) (x : Value) : Calls Tryz.prog 16 #[.pointer (some ⟨p, 0, none⟩), .int .i64 i, x] w fun e w' => e = .returned (.int .i64 2) ∧ w' = w := draft_ext h fun g D cs bl I hd => by
  have HI := Lib.hid (tis_any w p D _ _ name hd.blk hd.c27)
  rw [hnm] at HI
  have k28 := (cellB (k := 28) hd.blk).trans hd.c28
  rw [hd.len] at k28
  obtain ⟨c, hc⟩ : ∃ c, c = countN N := ⟨_, rfl⟩
  rw [← hc] at k28 hi
  clear h hd hc
  go_enter Tryz.func16, Tryz.ntmps16
  go_wp2_with fail
  refine HI.out.mono ?_
  rintro e w1 ⟨rfl, hw⟩
  obtain rfl := hw.symm
  clear hw
  go_wp2_with fail
  go_ret
  exact ⟨rfl, rfl⟩
end
section
variable {P : Program} {ops : Array Oper} {Q : Exit → Act → World → Prop} {md : Region.Mode} {S : World → Prop} {o : Oper} {a : Act}
theorem wpAnyH_one_g {i : Nat} {v : Value} {fuel : Nat} {listed : Array Bool} {w w' : World} {rest : List Oper} (hr : Region.ready md ops listed = [i]) (hi : ops.toList.drop i = o :: rest) (hw : Region.wanted o (yielded ops a.tmps) = true) (hrun : (execOp a.eval o).run P w = .ok (.value v) w') (hS : S w')
    (h : wpAnyH P md ops Q S fuel (listed.setIfInBounds i true) (a.put o.dst v) w') : wpAnyH P md ops Q S (fuel + 1) listed a w :=
  wpAnyH_all hr (by simp) fun j hj => by
    obtain rfl := List.mem_singleton.1 hj
    unfold wpOp
    simp only [ops_get hi]
    rw [if_pos hw]
    left
    unfold Oper.wp
    rw [hrun]
    exact ⟨hS, h⟩
theorem wpAnyH_call_g {i : Nat} {F : FuncId} {args : Array Value} {fuel : Nat} {listed : Array Bool} {w : World} {rest : List Oper} (hr : Region.ready md ops listed = [i]) (hi : ops.toList.drop i = o :: rest) (hw : Region.wanted o (yielded ops a.tmps) = true) (hrun : (execOp a.eval o).run P w = .ok (.enter F args) w)
    (h : Calls P F args w fun e w' => ∃ v, e = .returned v ∧ S w' ∧ wpAnyH P md ops Q S fuel (listed.setIfInBounds i true) (a.put o.dst v) w') : wpAnyH P md ops Q S (fuel + 1) listed a w :=
  wpAnyH_all hr (by simp) fun j hj => by
    obtain rfl := List.mem_singleton.1 hj
    unfold wpOp
    simp only [ops_get hi]
    rw [if_pos hw]
    left
    unfold Oper.wp
    rw [hrun]
    refine h.mono ?_
    rintro e w' ⟨v, rfl, hS, hh⟩
    exact ⟨hS, hh⟩
theorem yieldsIf_build_g (hw : Region.wanted o (yielded ops a.tmps) = true) (t : TypeId) (parts : Array (Nat × Operand)) (ho : o.op = .build t parts) (cells : Array Value) (hf : P.built t (parts.toList.map fun p => (p.1, a.eval p.2)) = some cells) : YieldsIf P ops S o (.agg cells) a :=
  .inl ⟨hw, fun w _ => by
    unfold execOp
    simp only [ho, Sem.run_bind, Sem.run_pure, Result.andThen_ok, run_build w t _ cells (by rw [Array.toList_map]; exact hf)]⟩
end
/-- A row of bytes, as a thing that stays. -/
def bytesG (g n : Nat) (l : List UInt8) : Gen where
  At w M I := M = [] ∧ I = [g] ∧ l.length = n ∧ ∃ cur, w.heap[g]? = some (.cells cur 5 (0, 0)) ∧ ∀ (j : Nat) x, l[j]? = some x → cur[j]? = some (bv x)
  lt := by
    rintro w M I ⟨rfl, rfl, hn, cur, h1, h2⟩
    exact ⟨fun _ h => (by cases h), fun b hb => (by rw [List.mem_singleton.1 hb]; exact ltB h1)⟩
  kept := by
    rintro w w' M I ⟨rfl, rfl, hn, cur, h1, h2⟩ hs hk
    exact ⟨rfl, rfl, hn, cur, (hk g (ltB h1) (.inr (by simp))).trans h1, h2⟩
theorem Things.bytes {w0 w w1 : World} {A : List Thing} {base c : Nat} {a : Option Addr} {l : List UInt8} (h : Things w0 w A) (x : Ext w w1) (hr : w1.ownsRow base 5 1 (.slice a l.length c) l.length (l.map bv)) (hb : w.heap.size ≤ base) (hl : 0 < l.length) : ∃ g, a = some ⟨g, 0, none⟩ ∧ Things w0 w1 (A ++ [.gen (bytesG g l.length l)]) := by
  rcases hr.2 with ⟨he, h0⟩ | ⟨g, cap', cur, he, hg, hh, _⟩
  · omega
  · cases he
    refine ⟨g, rfl, h.add (M := []) (I := [g]) x ⟨rfl, rfl, rfl, cur, hh, fun j y hj => ?_⟩ (fun _ hb => (by cases hb)) fun y hy => (by rw [List.mem_singleton.1 hy]; omega)⟩
    have := hr.cells (g := g) rfl j (bv y) (by rw [List.getElem?_map, hj]; rfl)
    rw [append_kw.add_off, Nat.zero_add, cellB hh] at this
    exact this
theorem bytes_conv {w0 w : World} {A B : List Thing} {g n c : Nat} {l : List UInt8} (h : Things w0 w (A ++ .gen (bytesG g n l) :: B)) : (convert 22 9 (.slice (some ⟨g, 0, none⟩) n c)).run Tryz.prog w = .ok (.string (bytesB l)) w := by
  obtain ⟨M, I, ⟨_, _, hn, cur, h1, h2⟩, _⟩ := h.opened
  subst hn
  exact run_convert_bytes_back w 22 9 5 ⟨g, 0, none⟩ c l Tryz.underlying22 (by kernel_rfl) Tryz.underlying9 (fun j hj => by
    rw [append_kw.add_off, Nat.zero_add, cellB h1]
    exact h2 j _ (List.getElem?_eq_getElem hj))

/-! The chapter's example, in plain words. -/
def y8 : List UInt8 := List.replicate 8 121
def z8 : List UInt8 := List.replicate 8 122
def y7 : List UInt8 := List.replicate 7 121
def g2 : List (Option (List UInt8)) := fillP 40 (hashesL gL) 2 y8 g1
theorem k_have0 : (List.range (countN 40)).filter (haveB g0) = [] := by decide
theorem k_wrongz : rightB 40 (hashesL gL) 2 z8 = false := by decide +kernel
theorem k_wrongy : rightB 40 (hashesL gL) 2 y7 = false := by decide +kernel
theorem k_right2 : rightB 40 (hashesL gL) 2 y8 = true := by decide +kernel
theorem k_far1 : farL 40 g1 = List.replicate 32 120 ++ List.replicate 8 0 := by decide +kernel
theorem k_open : openTo 40 (hashesL gL) (List.replicate 32 120 ++ List.replicate 8 0) (countN 40) = g1 := by decide +kernel
theorem k_done1 : doneB 40 (hashesL gL) g1 = false := by decide +kernel
theorem k_done2 : doneB 40 (hashesL gL) g2 = true := by decide +kernel
theorem k_far2 : farL 40 g2 = gL := by decide +kernel
theorem k_ok1 : PsOk 40 (hashesL gL) g1 := (PsOk.none 40 (hashesL gL) 3).fill g_right1
theorem k_ok2 : PsOk 40 (hashesL gL) g2 := k_ok1.fill k_right2
/-- What stands behind Save. -/
def fz : ByteArray := repS 120 32 ++ repS 0 8
theorem fz_list : fz.toList = List.replicate 32 120 ++ List.replicate 8 0 := by
  unfold fz
  rw [toList_append, repS_list, repS_list]
theorem fz_size : fz.size = 40 := by
  unfold fz
  rw [ByteArray.size_append, repS_size, repS_size]
theorem fz_far : bytesB (farL 40 g1) = fz := by
  apply ba_ext
  rw [fz_list, k_far1]
  exact toList_mk _
theorem gS_far : bytesB gL = gS := by
  apply ba_ext
  rw [gS_list]
  exact toList_mk _
theorem tdrop_at {w0 w : World} {A B : List Thing} {p : Nat} {r : RecS} {N : Nat} {name : ByteArray} {ps : List (Option (List UInt8))} {d : Nat} {K K' : Dk} {c : Int} (h : Things w0 w (A ++ .disk d K :: B)) (hm : Thing.draft p r N name ps ∈ A ++ B) (E : Env w) (hnm : name.toList.isEmpty = false) (hnz : name.size < 4294967281) (O : DkFit K) (hR : dropR K name = (c, K')) :
    Calls Tryz.prog 48 #[.pointer (some ⟨p, 0, none⟩), .pointer (some ⟨d, 0, none⟩)] w fun e w' => e = .returned (.int .i64 c) ∧ Things w0 w' (A ++ .disk d K' :: B) := by
  obtain ⟨M, I, M2, I2, h1, ⟨g, D, cs, bl, rfl, h2⟩, hA, h3⟩ := h.opened_with hm
  refine (drop_any w E p D _ name h2.blk h2.c27 hnm hnz d M I K h1 O).mono ?_
  rw [hR]
  rintro e w' ⟨he, M', I', h4, h5⟩
  exact ⟨he, h3 w' M' I' (.disk d K') h4 h5⟩
end Go.Proofs.YtldppmjjgljinaaGreatDoor
