/- Rows that stay as they are, among disks and drafts; a row of truths. -/
import Derived.Test.YtldppmjjgljinaaGreatDoorLawTpC
namespace Go.Proofs.YtldppmjjgljinaaGreatDoor
open Go.RowKit

/-- The digests of a record, as a thing that stays. -/
def hashG (bl : Value) (hs : List (List UInt8)) : Gen where
  At w M I := M = [] ∧ HashesAt w bl hs ∧ (∃ a' n' c', bl = .slice a' n' c' ∧ (a' = none ∨ ∃ g o, a' = some ⟨g, o, none⟩)) ∧ (∀ b o n c, bl = .slice (some ⟨b, o, none⟩) n c → b ∈ I) ∧ ∀ b ∈ I, b < w.heap.size
  lt := by
    rintro w M I ⟨rfl, h1, h2, h3, h4⟩
    exact ⟨fun _ h => (by cases h), h4⟩
  kept := by
    rintro w w' M I ⟨rfl, h1, h2, h3, h4⟩ hs hk
    exact ⟨rfl, h1.kept hs fun b o n c e hb => hk b hb (.inr (h3 b o n c e)), h2, h3, fun b hb => Nat.lt_of_lt_of_le (h4 b hb) hs⟩
/-- A row of numbers, as a thing that stays. -/
def rowG (a : Option Addr) (L : List Nat) : Gen where
  At w M I := M = [] ∧ (∀ (k x : Nat), L[k]? = some x → ∃ g, a = some ⟨g, 0, none⟩ ∧ g ∈ I ∧ w.cell? ⟨g, k, none⟩ = some (.int .i64 (x : Nat))) ∧ ∀ b ∈ I, b < w.heap.size
  lt := by
    rintro w M I ⟨rfl, h1, h2⟩
    exact ⟨fun _ h => (by cases h), h2⟩
  kept := by
    rintro w w' M I ⟨rfl, h1, h2⟩ hs hk
    refine ⟨rfl, fun k x hx => ?_, fun b hb => Nat.lt_of_lt_of_le (h2 b hb) hs⟩
    obtain ⟨g, e, hg, hc⟩ := h1 k x hx
    refine ⟨g, e, hg, ?_⟩
    unfold World.cell? at hc ⊢
    rw [hk g (h2 g hg) (.inr hg)]
    exact hc
theorem Things.hash {w0 w w1 : World} {A : List Thing} {base n c : Nat} {a : Option Addr} {l : List UInt8} (h : Things w0 w A) (x : Ext w w1) (hr : w1.ownsRow base 45 32 (.slice a n c) (countN l.length) (hrow (hashesL l))) (hb : w.heap.size ≤ base) : Things w0 w1 (A ++ [.gen (hashG (.slice a n c) (hashesL l))]) := by
  obtain ⟨h1, h2⟩ := hashes_row hr
  have h3 := (hashes_of_own (hs := hashesL l) (by rw [hashesL_len]; exact hr) (fun y hy => by
    unfold hashesL at hy
    obtain ⟨i, _, rfl⟩ := List.mem_map.1 hy
    exact shaL_len _)).2.1
  match a, h1, h2, h3 with
  | none, h1, h2, h3 => exact h.add (M := []) (I := []) x ⟨rfl, h1, h2, fun b o n c e => (by cases e), fun _ hb => (by cases hb)⟩ (fun _ hb => (by cases hb)) fun _ hb => (by cases hb)
  | some ⟨b, o, s⟩, h1, h2, h3 =>
    have hs : s = none := by
      obtain ⟨_, _, _, e, e2⟩ := h2
      cases e
      rcases e2 with e2 | ⟨_, _, e2⟩
      · cases e2
      · cases e2; rfl
    subst hs
    have hb' := h3 b o _ _ rfl
    exact h.add (M := []) (I := [b]) x ⟨rfl, h1, h2, fun b o n c e => (by cases e; simp), fun y hy => (by rw [List.mem_singleton.1 hy]; exact hb'.2)⟩ (fun _ hb => (by cases hb)) fun y hy => (by rw [List.mem_singleton.1 hy]; omega)
theorem Things.row {w0 w w1 : World} {A : List Thing} {base c : Nat} {a : Option Addr} {L : List Nat} (h : Things w0 w A) (x : Ext w w1) (hr : w1.ownsRow base 3 1 (.slice a L.length c) L.length (L.map iv)) (hb : w.heap.size ≤ base) : Things w0 w1 (A ++ [.gen (rowG a L)]) := by
  rcases hr.2 with ⟨he, h0⟩ | ⟨g, cap', cur, he, hg, hh, _⟩
  · refine h.add (M := []) (I := []) x ⟨rfl, fun k y hy => ?_, fun _ hb => (by cases hb)⟩ (fun _ hb => (by cases hb)) fun _ hb => (by cases hb)
    have := (List.getElem?_eq_some_iff.1 hy).1
    omega
  · cases he
    refine h.add (M := []) (I := [g]) x ⟨rfl, fun k y hy => ?_, fun y hy => (by rw [List.mem_singleton.1 hy]; exact ltB hh)⟩ (fun _ hb => (by cases hb)) fun y hy => (by rw [List.mem_singleton.1 hy]; omega)
    obtain ⟨g', e, hc⟩ := row_get hr k y hy
    cases e
    exact ⟨_, rfl, by simp, hc _ (Ext.refl _)⟩
theorem row_many {w0 w : World} {A B : List Thing} {a : Option Addr} {L : List Nat} (h : Things w0 w (A ++ .gen (rowG a L) :: B)) (k x : Nat) (hx : L[k]? = some x) : ∃ g, a = some ⟨g, 0, none⟩ ∧ w.cell? ⟨g, k, none⟩ = some (.int .i64 (x : Nat)) := by
  obtain ⟨M, I, ⟨_, h1, _⟩, _⟩ := h.opened
  obtain ⟨g, e, _, hc⟩ := h1 k x hx
  exact ⟨g, e, hc⟩
theorem obj_many {w0 w : World} {A B : List Thing} {b : Nat} {o : Obj} (h : Things w0 w (A ++ .obj b o :: B)) : w.heap[b]? = some o := by
  obtain ⟨M, I, ⟨_, _, h1⟩, _⟩ := h.opened
  exact h1
theorem hash_many {w0 w : World} {A B : List Thing} {bl : Value} {hs : List (List UInt8)} (h : Things w0 w (A ++ .gen (hashG bl hs) :: B)) : HashesAt w bl hs ∧ ∃ a' n' c', bl = .slice a' n' c' ∧ (a' = none ∨ ∃ g o, a' = some ⟨g, o, none⟩) := by
  obtain ⟨M, I, ⟨_, h1, h2, _⟩, _⟩ := h.opened
  exact ⟨h1, h2⟩
/-- A digest that stands in a row. -/
theorem HashesAt.get {w : World} {a : Option Addr} {n c : Nat} {hs : List (List UInt8)} (h : HashesAt w (.slice a n c) hs) {k : Nat} {y : List UInt8} (hk : hs[k]? = some y) : y.length = 32 ∧ ∃ g o, a = some ⟨g, o, none⟩ ∧ w.rangeAt g (o + k * 32) (hArr y 32).toList := by
  obtain ⟨a', cap, e, _, _, h3⟩ := h
  cases e
  obtain ⟨h32, g, o, e, _, hr⟩ := h3 k y hk
  exact ⟨h32, g, o, e, by rw [hArr_list h32]; exact hr⟩
theorem open_at23 {w0 w : World} {A B : List Thing} {d : Nat} {K : Dk} {l : List UInt8} {bl : Value} {nd : Nd} {z : Int} (h : Things w0 w (A ++ .disk d K :: B)) (E : Env w) (T : ShaTabs w) (hl : l.length ≤ 4096) (h1 : HashesAt w bl (hashesL l)) (h2 : ∃ a' n' c', bl = .slice a' n' c' ∧ (a' = none ∨ ∃ g o, a' = some ⟨g, o, none⟩))
    (hR : readE K.live tmpW = (nd, z)) (hd : nd.data.size ≤ 1048576) :
    Calls Tryz.prog 15 #[.pointer (some ⟨d, 0, none⟩), .string sF1, .agg (wantedC l bl), .pointer none] w fun e w' => ∃ p, e = .returned (.tuple #[.pointer (some ⟨p, 0, none⟩), .int .i64 0]) ∧ Hid (Ext w w' ∧ Things w0 w' (A ++ .disk d K :: B ++ [dr p l (openTo l.length (hashesL l) nd.data.toList (countN l.length))])) := by
  have := topen_many h sF1 (wantedR l) (wantedC l bl) bl l.length (wantedC_rec _ _) (wantedR_good l hl) h1 h2 E T (show sW.size < 4294967281 from by decide) (by decide) tmpW_place (by
    rw [show placeS sF1 (wantedR l).path = tmpW from rfl, hR]; exact hd)
  rw [show placeS sF1 (wantedR l).path = tmpW from rfl, hR] at this
  exact this

/-- A row of truths in a block. -/
def WantAt (g c : Nat) (w : World) (F : Nat → Bool) : Prop := ∃ cs, w.heap[g]? = some (.cells cs 4 (0, 0)) ∧ cs.size = c ∧ ∀ k, k < c → cs[k]? = some (.bool (F k))
theorem WantAt.cell {g c : Nat} {w : World} {F : Nat → Bool} (h : WantAt g c w F) {k : Nat} (hk : k < c) : w.cell? ⟨g, k, none⟩ = some (.bool (F k)) := by
  obtain ⟨cs, h1, _, h3⟩ := h
  exact (cellB h1).trans (h3 k hk)
theorem WantAt.free {g c : Nat} {w : World} {F : Nat → Bool} (h : WantAt g c w F) (k : Nat) : w.frozen? ⟨g, k, none⟩ = false := by
  obtain ⟨cs, h1, _⟩ := h
  exact frozenB h1
theorem WantAt.lt {g c : Nat} {w : World} {F : Nat → Bool} (h : WantAt g c w F) : g < w.heap.size := by
  obtain ⟨cs, h1, _⟩ := h
  exact ltB h1
theorem WantAt.ext {g c : Nat} {w w' : World} {F : Nat → Bool} (h : WantAt g c w F) (x : Ext w w') : WantAt g c w' F := by
  obtain ⟨cs, h1, h2, h3⟩ := h
  exact ⟨cs, (x.block (ltB h1)).trans h1, h2, h3⟩
theorem WantAt.set {g c : Nat} {w : World} {F G : Nat → Bool} (h : WantAt g c w F) (k : Nat) (b : Bool) (hk : k < c) (hG : ∀ j, j < c → G j = if j = k then b else F j) : WantAt g c (w.setCell ⟨g, k, none⟩ (.bool b)) G := by
  obtain ⟨cs, h1, h2, h3⟩ := h
  refine ⟨cs.setIfInBounds k (.bool b), setCellB h1, by rw [Array.size_setIfInBounds]; exact h2, fun j hj => ?_⟩
  rw [hG j hj]
  by_cases e : j = k
  · subst e
    rw [if_pos rfl, Array.getElem?_setIfInBounds_self_of_lt (by omega)]
  · rw [if_neg e, Array.getElem?_setIfInBounds_ne (Ne.symm e)]
    exact h3 j hj
theorem WantAt.same {g c : Nat} {w : World} {F G : Nat → Bool} (h : WantAt g c w F) (hG : ∀ j, j < c → F j = G j) : WantAt g c w G := by
  obtain ⟨cs, h1, h2, h3⟩ := h
  exact ⟨cs, h1, h2, fun k hk => by rw [← hG k hk]; exact h3 k hk⟩
theorem mkBools (w : World) (n : Nat) (hn : n ≤ 1048576) : (Instr.makeSlice 40 (.int .i64 n) (.int .i64 n)).run Tryz.prog w = .ok (.slice (some ⟨w.heap.size, 0, none⟩) n n) (w.alloc (.cells (Array.replicate n (.bool false)) 4)) := by
  obtain ⟨i, hi, hz0, hz1, hz2⟩ := info_parts (show (Tryz.prog.info? 4).map (fun i => (i.zero, i.size, i.bytes)) = some (some (.bool false), 1, 1) from by kernel_rfl)
  have h := run_make w 40 4 i (.bool false) Tryz.underlying40 hi hz0 .i64 .i64 (n : Int) (n : Int) (by omega) (Int.le_refl _) (by rw [hz2]; omega) (by omega)
  rw [hz1, Int.toNat_natCast, Nat.mul_one] at h
  have e : madeCells (Value.bool false).cells n = Array.replicate n (.bool false) := by
    apply Array.ext
    · simp [madeCells]
    · intro j h1 h2
      simp [madeCells, Value.cells, Nat.mod_one]
  rw [e] at h
  exact h
theorem WantAt.new (w : World) (n : Nat) : WantAt w.heap.size n (w.alloc (.cells (Array.replicate n (.bool false)) 4)) (fun _ => false) :=
  ⟨_, block_alloc_new w _, by simp, fun k hk => by rw [Array.getElem?_replicate, if_pos hk]⟩
/-- A thing of many that may be changed, and another one beside it. -/
theorem Things.opened_with {w0 w : World} {A B : List Thing} {t s : Thing} (h : Things w0 w (A ++ t :: B)) (hs : s ∈ A ++ B) :
    ∃ M I M2 I2, ThAt w M I t ∧ ThAt w M2 I2 s ∧ Apart M I M2 I2 ∧ ∀ w' M' I' t', ThAt w' M' I' t' → DkStep w M I w' M' I' → Things w0 w' (A ++ t' :: B) := by
  obtain ⟨x, X, hX, hall, hp⟩ := h
  obtain ⟨XA, XR, rfl, rfl, hR⟩ := List.map_eq_append_iff.1 hX
  obtain ⟨y, XB, rfl, rfl, rfl⟩ := List.map_eq_cons_iff.1 hR
  obtain ⟨t0, M, I⟩ := y
  have hT : Things w0 w (XA.map (·.1) ++ t0 :: XB.map (·.1)) := ⟨x, XA ++ (t0, M, I) :: XB, by simp, hall, hp⟩
  have hy := hall (t0, M, I) (by simp)
  obtain ⟨pA, pR, pAR⟩ := List.pairwise_append.1 hp
  obtain ⟨pB1, pB⟩ := List.pairwise_cons.1 pR
  have hA : ∀ z ∈ XA, Apart M I z.2.1 z.2.2 := fun z hz => (pAR z hz _ List.mem_cons_self).symm
  have hB : ∀ z ∈ XB, Apart M I z.2.1 z.2.2 := fun z hz => pB1 z hz
  have hzl : ∀ z, z ∈ XA ∨ z ∈ XB → ThAt w z.2.1 z.2.2 z.1 ∧ ∀ b ∈ z.2.1, w0.heap.size ≤ b := fun z hz => hall z (by rcases hz with hz | hz <;> simp [hz])
  obtain ⟨z, hz, e⟩ : ∃ z, (z ∈ XA ∨ z ∈ XB) ∧ z.1 = s := by
    rcases List.mem_append.1 hs with hs | hs
    · obtain ⟨z, hz, e⟩ := List.mem_map.1 hs
      exact ⟨z, .inl hz, e⟩
    · obtain ⟨z, hz, e⟩ := List.mem_map.1 hs
      exact ⟨z, .inr hz, e⟩
  refine ⟨M, I, z.2.1, z.2.2, hy.1, e ▸ (hzl z hz).1, hz.elim (hA z) (hB z), fun w' M' I' t' h' k => ?_⟩
  have hxe := k.ext x hy.2
  refine ⟨hxe.1, XA ++ (t', M', I') :: XB, by simp, fun z hz => ?_, ?_⟩
  · rcases List.mem_append.1 hz with hz | hz
    · exact ⟨(hzl z (.inl hz)).1.step k (hA z hz), (hzl z (.inl hz)).2⟩
    · rcases List.mem_cons.1 hz with rfl | hz
      · exact ⟨h', hxe.2⟩
      · exact ⟨(hzl z (.inr hz)).1.step k (hB z hz), (hzl z (.inr hz)).2⟩
  · have st : ∀ z, z ∈ XA ∨ z ∈ XB → Apart M I z.2.1 z.2.2 → Apart M' I' z.2.1 z.2.2 := fun z hz ha => ha.step k (hzl z hz).1.lt.1 (hzl z hz).1.lt.2
    refine List.pairwise_append.2 ⟨pA, List.pairwise_cons.2 ⟨fun z hz => st z (.inr hz) (hB z hz), pB⟩, fun z hz y hy => ?_⟩
    rcases List.mem_cons.1 hy with rfl | hy
    · exact (st z (.inl hz) (hA z hz)).symm
    · exact pAR z hz y (List.mem_cons_of_mem _ hy)
theorem tsave_at {w0 w : World} {A B : List Thing} {p : Nat} {r : RecS} {N : Nat} {name : ByteArray} {ps : List (Option (List UInt8))} {d : Nat} {K K' : Dk} {c : Int} (h : Things w0 w (A ++ .disk d K :: B)) (hm : Thing.draft p r N name ps ∈ A ++ B) (E : Env w) (hnm : name.toList.isEmpty = false) (ho : PsOk N r.hs ps) (hnz : name.size < 4294967281) (O : DkFit K) (hR : K.act (.write name (bytesB (farL N ps)) r.time) = (c, K')) :
    Calls Tryz.prog 18 #[.pointer (some ⟨p, 0, none⟩), .pointer (some ⟨d, 0, none⟩)] w fun e w' => e = .returned (.int .i64 c) ∧ Things w0 w' (A ++ .disk d K' :: B) := by
  obtain ⟨M, I, M2, I2, h1, ⟨g, D, cs, bl, rfl, h2⟩, hA, h3⟩ := h.opened_with hm
  refine (save_any w E p g D cs bl I2 r N name ps h2 hnm ho hnz d M I K h1 O (fun hm => hA.mi p hm h2.self)).mono ?_
  rw [hR]
  rintro e w' ⟨he, M', I', h4, h5⟩
  exact ⟨he, h3 w' M' I' (.disk d K') h4 h5⟩
theorem row_chg {w : World} {base c gw : Nat} {a : Option Addr} {L : List Nat} (h : w.ownsRow base 3 1 (.slice a L.length c) L.length (L.map iv)) (hg : gw < base) (k x : Nat) (hx : L[k]? = some x) : ∃ g, a = some ⟨g, 0, none⟩ ∧ ∀ wr, Chg [gw] w wr → wr.cell? ⟨g, k, none⟩ = some (.int .i64 (x : Nat)) := by
  rcases h.2 with ⟨he, h0⟩ | ⟨g, cap', cur, he, hgb, hh, _⟩
  · have := (List.getElem?_eq_some_iff.1 hx).1
    omega
  · cases he
    refine ⟨g, rfl, fun wr xr => ?_⟩
    have := h.cells (g := g) rfl k (iv x) (by rw [List.getElem?_map, hx]; rfl)
    rw [append_kw.add_off, Nat.zero_add] at this
    exact (xr.cell (ltB hh) (by simp only [List.mem_singleton]; omega)).trans this
theorem yieldsIf_load_at {P : Program} {ops : Array Oper} {S : World → Prop} {o : Oper} {a : Act} (hw : Region.wanted o (yielded ops a.tmps) = true) (ty : TypeId) (x : Operand) (ho : o.op = .load ty x) (b off : Nat) (hx : a.eval x = .pointer (some ⟨b, off, none⟩)) (cs : Array Value) (d : TypeDesc)
    (hc : ∀ w, S w → w.rangeAt b off cs.toList) (hu : P.underlying ty = some d) (hd : d.isRow = true) (hi : (P.info? ty).map (·.size) = some cs.size) : YieldsIf P ops S o (.agg cs) a :=
  .inl ⟨hw, fun w hw => by
    unfold execOp
    simp only [ho, hx, Instr.loadAt, Instr.sureAddr, Sem.run_bind, Sem.run_pure, Result.andThen_ok, run_loadVar_mid w b off ty cs.toList d (hc w hw) hu hd (by rw [hi]; simp)]⟩
theorem zeros_off (w : World) (n : Nat) (hn : n ≤ 1048576) : BytesOff (w.alloc (.cells (Array.replicate n (.int .u8 0)) 5)).heap.size (w.alloc (.cells (Array.replicate n (.int .u8 0)) 5)) (.slice (some ⟨w.heap.size, 0, none⟩) n n) (List.replicate n 0) := by
  refine ⟨_, n, by rw [List.length_replicate], by simp, by unfold maxLen; omega, fun h => ⟨w.heap.size, 0, rfl, by rw [size_alloc]; omega, by rw [size_alloc]; omega, fun j x hj => ?_⟩⟩
  rw [List.getElem?_replicate] at hj
  split at hj
  · cases hj
    rw [Nat.zero_add, cellB (block_alloc_new w _), Array.getElem?_replicate, if_pos ‹_›]
    rfl
  · cases hj
end Go.Proofs.YtldppmjjgljinaaGreatDoor
