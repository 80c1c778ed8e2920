/- Contract of caravan/sha's block. -/
import Derived.Test.YtgojagdjlebnnaaDoorShaA
import Derived.Test.YtgojagdjlebnnaaDoorTailQ
import Derived.Test.YtgojagdjlebnnaaDoorBlk
namespace Go.Proofs.YtgojagdjlebnnaaDoor
open Go.RowKit

def wv (x : Wd) : Value := .int .u32 x.toNat
def bv (x : UInt8) : Value := .int .u8 x.toNat
/-- The first words, then noughts. -/
def wArr (r : List UInt8) (k : Nat) : Array Value := ((wordsL r k).map wv ++ List.replicate (64 - k) (Value.int .u32 0)).toArray
def wObj (r : List UInt8) (k : Nat) : Obj := .cells (wArr r k) 116 (0, 0)

theorem wArr_size (r : List UInt8) (k : Nat) (h : k ≤ 64) : (wArr r k).size = 64 := by
  simp [wArr, wordsL_len]; omega
theorem wArr_at (r : List UInt8) (k j : Nat) (h : j < k) : (wArr r k)[j]? = some (wv ((wordsL r k).getD j 0)) := by
  unfold wArr
  rw [List.getElem?_toArray, List.getElem?_append_left (by simp [wordsL_len, h]), List.getElem?_map, wordsL_at r k j h, List.getD_eq_getElem?_getD, wordsL_at r k j h]
  rfl
theorem wArr_zero (r : List UInt8) (k j : Nat) (h : k ≤ j) (hj : j < 64) : (wArr r k)[j]? = some (.int .u32 0) := by
  unfold wArr
  rw [List.getElem?_toArray, List.getElem?_append_right (by simp [wordsL_len, h]), List.getElem?_replicate, if_pos (by simp [wordsL_len]; omega)]
theorem wArr_set (r : List UInt8) (k : Nat) (h : k < 64) : (wArr r k).setIfInBounds k (wv (nextW r (wordsL r k) k)) = wArr r (k + 1) := by
  apply Array.ext_getElem?
  intro j
  rw [Array.getElem?_setIfInBounds]
  split
  · subst_vars
    rw [if_pos (by rw [wArr_size r _ (by omega)]; omega), wArr_at r (j + 1) j (by omega), List.getD_eq_getElem?_getD, wordsL_at r (j + 1) j (by omega)]; rfl
  · rename_i hne
    by_cases h1 : j < k
    · rw [wArr_at r k j h1, wArr_at r (k + 1) j (by omega), List.getD_eq_getElem?_getD, List.getD_eq_getElem?_getD, wordsL_at r k j h1, wordsL_at r (k + 1) j (by omega)]
    · by_cases h2 : j < 64
      · rw [wArr_zero r k j (by omega) h2, wArr_zero r (k + 1) j (by omega) h2]
      · rw [Array.getElem?_eq_none (by rw [wArr_size r k (by omega)]; omega), Array.getElem?_eq_none (by rw [wArr_size r (k + 1) (by omega)]; omega)]
theorem word_eq (r : List UInt8) (k : Nat) (x0 x1 x2 x3 : UInt8) (hk : k < 16) (h0 : r[4 * k + 0]? = some x0) (h1 : r[4 * k + 1]? = some x1) (h2 : r[4 * k + 2]? = some x2) (h3 : r[4 * k + 3]? = some x3) :
    bits BinOp.or IntKind.u32 (bits BinOp.or IntKind.u32 (bits BinOp.or IntKind.u32 ((x0.toNat : Int) % 4294967296 * 16777216 % 4294967296) ((x1.toNat : Int) % 4294967296 * 65536 % 4294967296)) ((x2.toNat : Int) % 4294967296 * 256 % 4294967296)) ((x3.toNat : Int) % 4294967296) = ((nextW r (wordsL r k) k).toNat : Int) := by
  have b0 := x0.toNat_lt
  have b1 := x1.toNat_lt
  have b2 := x2.toNat_lt
  have b3 := x3.toNat_lt
  rw [show (x0.toNat : Int) % 4294967296 * 16777216 % 4294967296 = ((x0.toNat * 16777216 : Nat) : Int) from by omega,
    show (x1.toNat : Int) % 4294967296 * 65536 % 4294967296 = ((x1.toNat * 65536 : Nat) : Int) from by omega,
    show (x2.toNat : Int) % 4294967296 * 256 % 4294967296 = ((x2.toNat * 256 : Nat) : Int) from by omega,
    show (x3.toNat : Int) % 4294967296 = (x3.toNat : Int) from by omega]
  rw [u32_or_nat _ _ (by omega) (by omega), nat_join 24 _ _ (by omega) (by omega),
    u32_or_nat _ _ (by omega) (by omega), nat_join 16 _ _ (by omega) (by omega),
    u32_or_nat _ _ (by omega) (by omega), nat_join 8 _ _ (by omega) (by omega)]
  unfold nextW wordAt
  rw [if_pos hk, List.getD_eq_getElem?_getD, List.getD_eq_getElem?_getD, List.getD_eq_getElem?_getD, List.getD_eq_getElem?_getD, h1, h2, h3, show r[4 * k]? = some x0 from h0]
  simp only [Option.getD_some, BitVec.toNat_ofNat]
  omega

theorem wd_shr3 (x : Wd) : (x.toNat : Int) / (8 : Int) = ((x >>> 3).toNat : Int) := wd_shr x 3
theorem wd_shr10 (x : Wd) : (x.toNat : Int) / (1024 : Int) = ((x >>> 10).toNat : Int) := wd_shr x 10
theorem sched_eq (x0 x1 x9 x14 y : Wd) (h : x0 + sg0 x1 + x9 + sg1 x14 = y) :
    ((x0.toNat + bits BinOp.xor IntKind.u32 (bits BinOp.xor IntKind.u32 ((rotr x1 7).toNat : Int) (rotr x1 18).toNat) ((x1.toNat : Int) / (8 : Int)) + x9.toNat) % 4294967296 + bits BinOp.xor IntKind.u32 (bits BinOp.xor IntKind.u32 ((rotr x14 17).toNat : Int) (rotr x14 19).toNat) ((x14.toNat : Int) / (1024 : Int))) % 4294967296 = (y.toNat : Int) := by
  rw [wd_xor, wd_xor, wd_shr3, wd_shr10, wd_xor, wd_xor, ← h]
  unfold sg0 sg1
  rw [BitVec.toNat_add, BitVec.toNat_add, BitVec.toNat_add]
  omega

theorem wd_not (x : Wd) : bits BinOp.xor IntKind.u32 IntKind.u32.max (x.toNat : Int) = ((~~~x).toNat : Int) := by
  rw [show IntKind.u32.max = (((BitVec.allOnes 32 : Wd).toNat : Nat) : Int) from by decide, wd_xor, BitVec.allOnes_xor]
theorem xr_eq (e f g h kk ww : Wd) : ((h.toNat : Int) + bits BinOp.xor IntKind.u32 (bits BinOp.xor IntKind.u32 ((rotr e 6).toNat : Int) (rotr e 11).toNat) (rotr e 25).toNat + bits BinOp.xor IntKind.u32 (bits BinOp.and IntKind.u32 (e.toNat : Int) f.toNat) (bits BinOp.and IntKind.u32 (bits BinOp.xor IntKind.u32 IntKind.u32.max (e.toNat : Int)) g.toNat) + kk.toNat + ww.toNat) % 4294967296 = ((h + big1 e + chw e f g + kk + ww).toNat : Int) := by
  rw [wd_not, wd_xor, wd_xor, wd_and, wd_and, wd_xor]
  unfold big1 chw
  rw [BitVec.toNat_add, BitVec.toNat_add, BitVec.toNat_add, BitVec.toNat_add]
  omega
theorem yr_eq (a b c : Wd) : (bits BinOp.xor IntKind.u32 (bits BinOp.xor IntKind.u32 ((rotr a 2).toNat : Int) (rotr a 13).toNat) (rotr a 22).toNat + bits BinOp.xor IntKind.u32 (bits BinOp.xor IntKind.u32 (bits BinOp.and IntKind.u32 (a.toNat : Int) b.toNat) (bits BinOp.and IntKind.u32 (a.toNat : Int) c.toNat)) (bits BinOp.and IntKind.u32 (b.toNat : Int) c.toNat)) % 4294967296 = ((big0 a + mjw a b c).toNat : Int) := by
  rw [wd_xor, wd_xor, wd_and, wd_and, wd_and, wd_xor, wd_xor]
  unfold big0 mjw
  rw [BitVec.toNat_add]
  omega

def V8.get (v : V8) : Array Value := #[wv v.a, wv v.b, wv v.c, wv v.d, wv v.e, wv v.f, wv v.g, wv v.h]
def vObj (v : V8) : Obj := .cells v.get 84 (0, 0)
/-- The cells of a state: eight words, 64 bytes, how many bytes it was given. -/
def stC (l : List Wd) (r : List UInt8) (n : Int) : Array Value := (l.map wv ++ (r.map bv ++ [Value.int .i64 n, .bool true])).toArray
def stObj (l : List Wd) (r : List UInt8) (n : Int) : Obj := .cells (stC l r n) 94 (0, 0)
theorem stC_word (l : List Wd) (r : List UInt8) (n : Int) (k : Nat) (x : Wd) (h : l[k]? = some x) : (stC l r n)[k]? = some (.int .u32 x.toNat) := by
  have hk : k < l.length := (List.getElem?_eq_some_iff.1 h).1
  unfold stC
  rw [List.getElem?_toArray, List.getElem?_append_left (by simpa using hk), List.getElem?_map, h]; rfl
theorem stC_byte (l : List Wd) (r : List UInt8) (n : Int) (k : Nat) (x : UInt8) (hl : l.length = 8) (h : r[k]? = some x) : (stC l r n)[8 + k]? = some (.int .u8 x.toNat) := by
  have hk : k < r.length := (List.getElem?_eq_some_iff.1 h).1
  unfold stC
  rw [List.getElem?_toArray, List.getElem?_append_right (by simp [hl]), List.getElem?_append_left (by simp [hl, hk]), List.getElem?_map]
  simp [hl, h, bv]
theorem stC_set (l : List Wd) (r : List UInt8) (n : Int) (k : Nat) (x : Wd) (h : k < l.length) : (stC l r n).setIfInBounds k (wv x) = stC (l.set k x) r n := by
  unfold stC
  rw [List.setIfInBounds_toArray, List.set_append_left _ _ (by simpa using h), List.map_set]
theorem stObj_set (l : List Wd) (r : List UInt8) (n : Int) (k : Nat) (x : Wd) (h : k < l.length) : Obj.cells ((stC l r n).setIfInBounds k (wv x)) 94 (0, 0) = stObj (l.set k x) r n := by rw [stC_set _ _ _ _ _ h]; rfl
/-- The first words of one list, the others of another. -/
def mixL (a b : List Wd) (k : Nat) : List Wd := a.take k ++ b.drop k
theorem mixL_len (a b : List Wd) (k : Nat) (ha : a.length = 8) (hb : b.length = 8) (h : k ≤ 8) : (mixL a b k).length = 8 := by simp [mixL, ha, hb]; omega
theorem mixL_at (a b : List Wd) (k : Nat) (ha : a.length = 8) (h : k < 8) : (mixL a b k)[k]? = b[k]? := by
  unfold mixL
  rw [List.getElem?_append_right (by simp [ha]; omega)]; simp [ha, show min k 8 = k from by omega]
theorem mixL_set (a b : List Wd) (k : Nat) (x : Wd) (ha : a.length = 8) (hb : b.length = 8) (h : k < 8) (hx : a[k]? = some x) : (mixL a b k).set k x = mixL a b (k + 1) := by
  unfold mixL
  rw [List.set_append, if_neg (by simp [ha]; omega), List.take_add_one, hx]
  simp only [List.length_take, ha, show min k 8 = k from by omega, Nat.sub_self, Option.toList_some, List.append_assoc, List.cons_append, List.nil_append]
  rw [List.drop_eq_getElem_cons (show k < b.length by omega)]; rfl
/-- The world has new blocks at most, but for one that may have turned. -/
def Touch (b : Nat) (w w' : World) : Prop := w.grownBy w' (some b)
theorem Touch.of {b : Nat} {w w' : World} (h : Ext w w') : Touch b w w' := ⟨h.os, h.tape, h.output, h.size, fun _ hi _ => h.block hi⟩
theorem Touch.trans {b : Nat} {u v w : World} (h : Touch b u v) (k : Touch b v w) : Touch b u w := World.grownBy.andThen h k fun _ e => .inr e
theorem Touch.setCell {b k : Nat} {w w' : World} (h : Touch b w w') (u : Value) : Touch b w (w'.setCell ⟨b, k, none⟩ u) := by
  refine h.trans ⟨rfl, rfl, rfl, by simp [World.setCell], fun i _ hne => setCellO fun e => hne (by rw [e])⟩

set_option maxHeartbeats 4000000 in
set_option maxRecDepth 100000 in
theorem block_any (s : V8) (r : List UInt8) (n : Int) (bs : Nat) (w : World) (hr : r.length = 64) (hst : w.heap[bs]? = some (stObj s.list r n)) (hk : ∀ k, k < 64 → w.cell? ⟨2, k, none⟩ = some (.int .u32 (kAt k).toNat)) :
    Calls Tryd.prog 90 #[.pointer (some ⟨bs, 0, none⟩), .slice (some ⟨bs, 8, none⟩) 64 64] w fun e w' => e = .returned (.tuple #[]) ∧ w'.heap[bs]? = some (stObj (comp s r).list r n) ∧ Touch bs w w' := by
  have hb : ∀ (k : Nat) x, r[k]? = some x → w.cell? ⟨bs, 8 + k, none⟩ = some (bv x) := fun k x h => (cellB hst).trans (stC_byte _ _ _ k x rfl h)
  have HST := Lib.hid hst
  clear hst
  have HB := Lib.hid hb
  have HK := Lib.hid hk
  clear hb hk
  go_enter Tryd.func90, Tryd.ntmps90
  go_wp2_with fail
  go_loopw [15] (fun i wr => Hid (∃ k : Nat, k ≤ 64 ∧ i = .int .i64 k ∧ Ext w wr ∧ wr.heap[w.heap.size]? = some (wObj r k))) (fun i _ => 64 - (intOf i).toNat)
  case atStart => exact ⟨0, by omega, rfl, (Ext.refl w).alloc _, heap_alloc_new _ _⟩
  case round =>
    obtain ⟨k, hk, rfl, hx, hwb⟩ := hrel.out
    clear hrel
    have HX := Lib.hid hx
    have HW := Lib.hid hwb
    clear hx hwb
    by_cases hlt : k < 64
    · have hfr : ∀ v : After wr, v.v.frozen? ⟨w.heap.size, k, none⟩ = false := fun v => frozenB ((v.x.block (ltB HW.out)).trans HW.out)
      have hzz : ∀ v : After wr, v.v.cell? ⟨w.heap.size, k, none⟩ = some (.int .u32 0) := fun v => (cellB ((v.x.block (ltB HW.out)).trans HW.out)).trans (wArr_zero r k k (Nat.le_refl _) hlt)
      by_cases h16 : k < 16
      · have hp : ∀ j, j < 4 → ∃ x, r[4 * k + j]? = some x ∧ ∀ v : After wr, v.v.cell? ⟨bs, 8 + (4 * k + j), none⟩ = some (.int .u8 x.toNat) := fun j hj => by
          obtain ⟨x, hx⟩ : ∃ x, r[4 * k + j]? = some x := ⟨_, List.getElem?_eq_getElem (by omega)⟩
          exact ⟨x, hx, fun v => After.cell ((HX.out.cell (lt_of_cell (HB.out _ _ hx))).trans (HB.out _ _ hx)) v⟩
        obtain ⟨x0, q0, p0⟩ := hp 0 (by omega)
        replace p0 : ∀ v : After wr, v.v.cell? ⟨bs, 8 + 4 * k, none⟩ = some (.int .u8 x0.toNat) := p0
        obtain ⟨x1, q1, p1⟩ := hp 1 (by omega)
        obtain ⟨x2, q2, p2⟩ := hp 2 (by omega)
        obtain ⟨x3, q3, p3⟩ := hp 3 (by omega)
        have HE := Lib.hid (word_eq r k x0 x1 x2 x3 h16 q0 q1 q2 q3)
        clear hp q0 q1 q2 q3
        go_wp2_with fail
        refine wp_region_after_tail 35 (by kernel_rfl) (by kernel_rfl) ?_; simp only [List.take_succ_cons, List.take_zero, List.drop_succ_cons, List.drop_zero]
        repeat (go_big_quiet_step (fail))
        refine wpQuiet_nil ?_; rintro _ ⟨y, rfl⟩
        rw [HE.out]
        have HY := Lib.hid y.x
        go_wp2_with fail
        go_roundw
        case rel => exact ⟨k + 1, by omega, by go_num, (HX.out.trans HY.out).setCell (Nat.le_refl _) _, by rw [setCellB ((HY.out.block (ltB HW.out)).trans HW.out)]; exact congrArg (fun a => some (Obj.cells a 116 (0, 0))) (wArr_set r k hlt)⟩
        case measure => simp [intOf]; omega
      · obtain ⟨m, rfl⟩ : ∃ m, k = m + 16 := ⟨k - 16, by omega⟩
        have hq : ∀ j, j < 16 → ∀ v : After wr, v.v.cell? ⟨w.heap.size, m + j, none⟩ = some (.int .u32 ((wordsL r (m + 16)).getD (m + j) 0).toNat) := fun j hj v => (cellB ((v.x.block (ltB HW.out)).trans HW.out)).trans (wArr_at r (m + 16) (m + j) (by omega))
        obtain ⟨x0, g0⟩ : ∃ x, x = (wordsL r (m + 16)).getD m 0 := ⟨_, rfl⟩
        obtain ⟨x1, g1⟩ : ∃ x, x = (wordsL r (m + 16)).getD (m + 1) 0 := ⟨_, rfl⟩
        obtain ⟨x9, g9⟩ : ∃ x, x = (wordsL r (m + 16)).getD (m + 9) 0 := ⟨_, rfl⟩
        obtain ⟨x14, g14⟩ : ∃ x, x = (wordsL r (m + 16)).getD (m + 14) 0 := ⟨_, rfl⟩
        have p0 : ∀ v : After wr, v.v.cell? ⟨w.heap.size, m, none⟩ = some (.int .u32 x0.toNat) := fun v => by rw [g0]; exact hq 0 (by omega) v
        have p1 : ∀ v : After wr, v.v.cell? ⟨w.heap.size, m + 1, none⟩ = some (.int .u32 x1.toNat) := fun v => by rw [g1]; exact hq 1 (by omega) v
        have p9 : ∀ v : After wr, v.v.cell? ⟨w.heap.size, m + 9, none⟩ = some (.int .u32 x9.toNat) := fun v => by rw [g9]; exact hq 9 (by omega) v
        have p14 : ∀ v : After wr, v.v.cell? ⟨w.heap.size, m + 14, none⟩ = some (.int .u32 x14.toNat) := fun v => by rw [g14]; exact hq 14 (by omega) v
        have HE := Lib.hid (sched_eq x0 x1 x9 x14 _ (show x0 + sg0 x1 + x9 + sg1 x14 = nextW r (wordsL r (m + 16)) (m + 16) from by
          unfold nextW
          rw [if_neg (by omega), g0, g1, g9, g14, show m + 16 - 16 = m from by omega, show m + 16 - 15 = m + 1 from by omega, show m + 16 - 7 = m + 9 from by omega, show m + 16 - 2 = m + 14 from by omega]))
        clear hq g0 g1 g9 g14
        go_wp2_with fail
        refine wp_region_after (by kernel_rfl) (by kernel_rfl) ?_
        repeat (go_big_quiet_step (fail))
        refine wpQuiet_nil ?_; rintro _ ⟨y, rfl⟩
        have HY := Lib.hid y.x
        go_wp2_with fail
        refine wp_region_after_tail0 y 29 (by kernel_rfl) (by kernel_rfl) ?_; simp only [List.take_succ_cons, List.take_zero, List.drop_succ_cons, List.drop_zero]
        repeat (go_big_quiet_step ((go_at_call 109; exact After.same (right_any _ _ _ rfl))))
        refine wpQuiet_nil ?_; rintro _ ⟨y2, rfl⟩
        rw [HE.out]
        have HY2 := Lib.hid y2.x
        go_wp2_with fail
        go_roundw
        case rel => exact ⟨m + 16 + 1, by omega, by go_num, (HX.out.trans HY2.out).setCell (Nat.le_refl _) _, by rw [setCellB ((HY2.out.block (ltB HW.out)).trans HW.out)]; exact congrArg (fun a => some (Obj.cells a 116 (0, 0))) (wArr_set r (m + 16) hlt)⟩
        case measure => simp [intOf]; omega
    · have e64 : k = 64 := by omega
      have HW := Lib.hid (e64 ▸ HW.out)
      have HK64 := Lib.hid e64
      clear e64
      obtain ⟨wa, rfl⟩ : ∃ x, x = wr := ⟨_, rfl⟩
      have hst := (HX.out.block (ltB HST.out)).trans HST.out
      have hsx : ∀ (k : Nat) x, s.list[k]? = some x → wa.cell? ⟨bs, k, none⟩ = some (.int .u32 x.toNat) := fun k x h => (cellB hst).trans (stC_word _ _ _ k x h)
      clear hst
      have s0 : wa.cell? ⟨bs, 0, none⟩ = some (.int .u32 s.a.toNat) := hsx 0 _ rfl
      have s1 : wa.cell? ⟨bs, 1, none⟩ = some (.int .u32 s.b.toNat) := hsx 1 _ rfl
      have s2 : wa.cell? ⟨bs, 2, none⟩ = some (.int .u32 s.c.toNat) := hsx 2 _ rfl
      have s3 : wa.cell? ⟨bs, 3, none⟩ = some (.int .u32 s.d.toNat) := hsx 3 _ rfl
      have s4 : wa.cell? ⟨bs, 4, none⟩ = some (.int .u32 s.e.toNat) := hsx 4 _ rfl
      have s5 : wa.cell? ⟨bs, 5, none⟩ = some (.int .u32 s.f.toNat) := hsx 5 _ rfl
      have s6 : wa.cell? ⟨bs, 6, none⟩ = some (.int .u32 s.g.toNat) := hsx 6 _ rfl
      have s7 : wa.cell? ⟨bs, 7, none⟩ = some (.int .u32 s.h.toNat) := hsx 7 _ rfl
      go_wp2_with fail
      go_loopw [97] (fun i wr => Hid (∃ k : Nat, k ≤ 64 ∧ i = .int .i64 k ∧ Ext wa wr ∧ wr.heap[wa.heap.size]? = some (vObj (rounds s (wordsL r 64) k)))) (fun i _ => 64 - (intOf i).toNat)
      case atStart => exact ⟨0, by omega, rfl, (Ext.refl wa).alloc _, heap_alloc_new _ _⟩
      case round =>
        obtain ⟨k2, hk2, rfl, hx, hvb⟩ := hrel.out
        clear hrel hsx s0 s1 s2 s3 s4 s5 s6 s7
        have HV := Lib.hid hvb
        have HXQ := Lib.hid hx
        have HWQ := Lib.hid ((hx.block (ltB HW.out)).trans HW.out)
        by_cases hlt2 : k2 < 64
        · obtain ⟨V, gV⟩ : ∃ V, V = rounds s (wordsL r 64) k2 := ⟨_, rfl⟩
          obtain ⟨kk, gk⟩ : ∃ x, x = kAt k2 := ⟨_, rfl⟩
          obtain ⟨ww, gw⟩ : ∃ x, x = (wordsL r 64).getD k2 0 := ⟨_, rfl⟩
          rw [← gV] at hvb
          have HVE := Lib.hid gV.symm
          have HR := Lib.hid (show rnd V kk ww = rounds s (wordsL r 64) (k2 + 1) from by rw [gV, gk, gw]; rfl)
          have ck : ∀ v : After wr, v.v.cell? ⟨2, k2, none⟩ = some (.int .u32 kk.toNat) := fun v => by
            have h1 := HK.out k2 hlt2
            rw [← gk] at h1
            have h2 := (HX.out.cell (lt_of_cell h1)).trans h1
            exact After.cell ((hx.cell (lt_of_cell h2)).trans h2) v
          have cw : ∀ v : After wr, v.v.cell? ⟨w.heap.size, k2, none⟩ = some (.int .u32 ww.toNat) := fun v => (After.at HWQ.out v).trans (by rw [gw]; exact wArr_at r 64 k2 hlt2)
          clear gV gk gw
          have c0 : ∀ v : After wr, v.v.cell? ⟨wa.heap.size, 0, none⟩ = some (.int .u32 V.a.toNat) := After.at hvb
          have c1 : ∀ v : After wr, v.v.cell? ⟨wa.heap.size, 1, none⟩ = some (.int .u32 V.b.toNat) := After.at hvb
          have c2 : ∀ v : After wr, v.v.cell? ⟨wa.heap.size, 2, none⟩ = some (.int .u32 V.c.toNat) := After.at hvb
          have c3 : ∀ v : After wr, v.v.cell? ⟨wa.heap.size, 3, none⟩ = some (.int .u32 V.d.toNat) := After.at hvb
          have c4 : ∀ v : After wr, v.v.cell? ⟨wa.heap.size, 4, none⟩ = some (.int .u32 V.e.toNat) := After.at hvb
          have c5 : ∀ v : After wr, v.v.cell? ⟨wa.heap.size, 5, none⟩ = some (.int .u32 V.f.toNat) := After.at hvb
          have c6 : ∀ v : After wr, v.v.cell? ⟨wa.heap.size, 6, none⟩ = some (.int .u32 V.g.toNat) := After.at hvb
          have c7 : ∀ v : After wr, v.v.cell? ⟨wa.heap.size, 7, none⟩ = some (.int .u32 V.h.toNat) := After.at hvb
          have cf : ∀ (v : After wr) (k2 : Nat), v.v.frozen? ⟨wa.heap.size, k2, none⟩ = false := fun v k2 => After.free hvb v
          clear hvb hx
          go_wp2_with fail
          refine wp_region_after (by kernel_rfl) (by kernel_rfl) ?_
          repeat (go_big_quiet_step (fail))
          refine wpQuiet_nil ?_; rintro _ ⟨y, rfl⟩
          go_wp2_with fail
          refine wp_region_after0 y (by kernel_rfl) (by kernel_rfl) ?_
          repeat (go_big_quiet_step ((go_at_call 109; exact After.same (right_any _ _ _ rfl))))
          refine wpQuiet_nil ?_; rintro _ ⟨y2, rfl⟩
          go_wp2_with fail
          refine wp_region_after0 y2 (by kernel_rfl) (by kernel_rfl) ?_
          repeat (go_big_quiet_step ((go_at_call 109; exact After.same (right_any _ _ _ rfl))))
          refine wpQuiet_nil ?_; rintro _ ⟨y3, rfl⟩
          rw [xr_eq, yr_eq]
          obtain ⟨X, gX⟩ : ∃ X, X = V.h + big1 V.e + chw V.e V.f V.g + kk + ww := ⟨_, rfl⟩
          obtain ⟨Y, gY⟩ : ∃ Y, Y = big0 V.a + mjw V.a V.b V.c := ⟨_, rfl⟩
          rw [← gX, ← gY]
          have HQ := Lib.hid (show (⟨X + Y, V.a, V.b, V.c, V.d + X, V.e, V.f, V.g⟩ : V8) = rounds s (wordsL r 64) (k2 + 1) from by rw [← HR.out, gX, gY]; rfl)
          have HY3 := Lib.hid y3.x
          have hy3 := (HY3.out.block (ltB HV.out)).trans HV.out
          rw [HVE.out] at hy3
          have HY3B := Lib.hid hy3
          clear gX gY y y2 hy3
          go_wp2_with (first | (refine wpList_buildAs #[.int .u32 (((X.toNat : Int) + Y.toNat) % 4294967296), .int .u32 V.a.toNat, .int .u32 V.b.toNat, .int .u32 V.c.toNat, .int .u32 (((V.d.toNat : Int) + X.toNat) % 4294967296), .int .u32 V.e.toNat, .int .u32 V.f.toNat, .int .u32 V.g.toNat] rfl _ _ rfl (by kernel_rfl) ?_; go_frame) | (refine wpList_store_row rfl _ _ _ rfl wa.heap.size #[.int .u32 (((X.toNat : Int) + Y.toNat) % 4294967296), .int .u32 V.a.toNat, .int .u32 V.b.toNat, .int .u32 V.c.toNat, .int .u32 (((V.d.toNat : Int) + X.toNat) % 4294967296), .int .u32 V.e.toNat, .int .u32 V.f.toNat, .int .u32 V.g.toNat] rfl rfl 84 V.get HY3B.out (by kernel_rfl) rfl (by kernel_rfl) ?_; go_frame))
          go_roundw
          case rel => exact ⟨k2 + 1, by omega, by go_num, (HXQ.out.trans HY3.out).setRow (Nat.le_refl _) _, by rw [setRow_heap _ _ _ _ _ _ HY3B.out, ← HQ.out, wd_add, wd_add]; rfl⟩
          case measure => simp [intOf]; omega
        · have e64 : k2 = 64 := by omega
          have HV := Lib.hid (e64 ▸ HV.out)
          clear e64
          obtain ⟨wb, rfl⟩ : ∃ x, x = wr := ⟨_, rfl⟩
          have HXB := Lib.hid (HX.out.trans HXQ.out)
          have HSB := Lib.hid ((HXB.out.block (ltB HST.out)).trans HST.out)
          obtain ⟨V, gV⟩ : ∃ V, V = rounds s (wordsL r 64) 64 := ⟨_, rfl⟩
          have HVB := Lib.hid (show wb.heap[wa.heap.size]? = some (vObj V) from by rw [gV]; exact HV.out)
          have HFIN := Lib.hid (show s.add V = comp s r from by rw [gV]; rfl)
          have hne : wa.heap.size ≠ bs := fun e => by have := ltB HST.out; have := HX.out.size; omega
          clear gV HV hx
          go_wp2_with fail
          go_loopw [177] (fun i wr => Hid (∃ k : Nat, k ≤ 8 ∧ i = .int .i64 k ∧ Touch bs wb wr ∧ wr.heap[bs]? = some (stObj (mixL (s.add V).list s.list k) r n))) (fun i _ => 8 - (intOf i).toNat)
          case atStart => exact ⟨0, by omega, rfl, Touch.of (Ext.refl wb), HSB.out⟩
          case round =>
            obtain ⟨k3, hk3, rfl, ht, hs3⟩ := hrel.out
            clear hrel
            have HT := Lib.hid ht
            have HS3 := Lib.hid hs3
            have hv3 : wr.heap[wa.heap.size]? = some (vObj V) := (ht.block _ (ltB HVB.out) (fun e => hne (Option.some.inj e))).trans HVB.out
            by_cases hlt3 : k3 < 8
            · obtain ⟨x, hx⟩ : ∃ x, s.list[k3]? = some x := ⟨_, List.getElem?_eq_getElem (by show k3 < 8; exact hlt3)⟩
              obtain ⟨y, hy⟩ : ∃ x, V.list[k3]? = some x := ⟨_, List.getElem?_eq_getElem (by show k3 < 8; exact hlt3)⟩
              have hxy : (s.add V).list[k3]? = some (x + y) := by
                rw [show (s.add V).list = List.zipWith (· + ·) s.list V.list from rfl, List.getElem?_zipWith, hx, hy]
              have c1 : ∀ v : After wr, v.v.cell? ⟨bs, k3, none⟩ = some (.int .u32 x.toNat) := fun v => (After.at hs3 v).trans (stC_word _ _ _ k3 x (by rw [mixL_at _ _ _ rfl hlt3]; exact hx))
              have c2 : ∀ v : After wr, v.v.cell? ⟨wa.heap.size, k3, none⟩ = some (.int .u32 y.toNat) := fun v => (After.at hv3 v).trans (by rw [show V.get = (V.list.map wv).toArray from rfl, List.getElem?_toArray, List.getElem?_map, hy]; rfl)
              have cf : ∀ v : After wr, v.v.frozen? ⟨bs, k3, none⟩ = false := fun v => After.free hs3 v
              obtain ⟨z, gz⟩ : ∃ z, z = x + y := ⟨_, rfl⟩
              have HA := Lib.hid (wd_add x y)
              rw [← gz] at HA hxy
              have HM := Lib.hid (mixL_set (s.add V).list s.list k3 z rfl rfl hlt3 hxy)
              have HL := Lib.hid (mixL_len (s.add V).list s.list k3 rfl rfl hk3)
              clear gz
              clear hx hy hxy hs3 hv3 ht
              go_wp2_with fail
              refine wp_region_after_tail 13 (by kernel_rfl) (by kernel_rfl) ?_; simp only [List.take_succ_cons, List.take_zero, List.drop_succ_cons, List.drop_zero]
              repeat (go_big_quiet_step (fail))
              refine wpQuiet_nil ?_; rintro _ ⟨y3, rfl⟩
              rw [HA.out]
              have HY := Lib.hid y3.x
              go_wp2_with fail
              go_roundw
              case rel => exact ⟨k3 + 1, by omega, by go_num, (HT.out.trans (Touch.of HY.out)).setCell _, by rw [setCellB ((HY.out.block (ltB HS3.out)).trans HS3.out), ← HM.out, ← stObj_set _ _ _ _ _ (by rw [HL.out]; exact hlt3)]; rfl⟩
              case measure => simp [intOf]; omega
            · have e8 : k3 = 8 := by omega
              have HS3 := Lib.hid (e8 ▸ HS3.out)
              clear e8
              go_wp2_with fail
              go_end0
              exact ⟨rfl, by rw [HS3.out, ← HFIN.out]; rfl, (Touch.of HXB.out).trans HT.out⟩
end Go.Proofs.YtgojagdjlebnnaaDoor
