/- Contract of caravan/sha's Write. -/
import Derived.Test.YtgojagdjlebnnaaDoorShaC
namespace Go.Proofs.YtgojagdjlebnnaaDoor
open Go.RowKit

def lenV : Value → Nat
  | .slice _ n _ => n
  | _ => 0
/-- The state's parts behind the copy of some bytes, and behind the block, if it is full. -/
theorem st_part (m cs r : List UInt8) (hr : r.length = 64) (hp : r.take (m.length % 64) = m.drop (64 * (m.length / 64))) (h : m.length % 64 + cs.length ≤ 64) :
    (r.take (m.length % 64) ++ (cs ++ r.drop (m.length % 64 + cs.length))).length = 64 ∧ (r.take (m.length % 64) ++ (cs ++ r.drop (m.length % 64 + cs.length))).take (m.length % 64 + cs.length) = (m ++ cs).drop (64 * (m.length / 64)) := by
  have hl : (r.take (m.length % 64)).length = m.length % 64 := by simp [hr]; omega
  constructor
  · simp only [List.length_append, hl, List.length_drop, hr]; omega
  · rw [List.take_append, hl, List.take_of_length_le (by rw [hl]; omega), show m.length % 64 + cs.length - m.length % 64 = cs.length from by omega, List.take_left', List.drop_append_of_le_length (by omega), hp]
    rfl
theorem st_less {m cs : List UInt8} (h : m.length % 64 + cs.length < 64) : (m ++ cs).length / 64 = m.length / 64 ∧ (m ++ cs).length % 64 = m.length % 64 + cs.length := by
  rw [List.length_append]; omega
theorem st_full {m cs r : List UInt8} (hr : r.length = 64) (hp : r.take (m.length % 64) = m.drop (64 * (m.length / 64))) (h : m.length % 64 + cs.length = 64) :
    (m ++ cs).length / 64 = m.length / 64 + 1 ∧ (m ++ cs).length % 64 = 0 ∧ digN (m ++ cs) ((m ++ cs).length / 64) = comp (digN m (m.length / 64)) (r.take (m.length % 64) ++ (cs ++ r.drop (m.length % 64 + cs.length))) := by
  have e1 : (m ++ cs).length / 64 = m.length / 64 + 1 := by rw [List.length_append]; omega
  refine ⟨e1, by rw [List.length_append]; omega, ?_⟩
  obtain ⟨h1, h2⟩ := st_part m cs r hr hp (by omega)
  rw [e1]
  show comp (digN (m ++ cs) (m.length / 64)) _ = _
  rw [digN_app m cs _ (by omega)]
  congr 1
  rw [h] at h1 h2 ⊢
  rw [← h2, List.take_take, show min 64 64 = 64 from rfl, List.take_of_length_le (by omega)]
theorem min_facts {L a k : Nat} (h : Nat.min L (64 - a) = k) (h0 : 0 < L) (ha : a < 64) : 0 < k ∧ k ≤ L ∧ a + k ≤ 64 ∧ (a + k = 64 ∨ k = L) := by
  have : Nat.min L (64 - a) = min L (64 - a) := rfl
  omega

theorem bytesOff_drop {b g o L cap k : Nat} {w : World} {rem : List UInt8} (h : BytesOff b w (.slice (some ⟨g, o, none⟩) L cap) rem) (hL : rem.length = L) (hk : k ≤ L) : BytesOff b w (.slice (some ⟨g, o + k, none⟩) (L - k) (cap - k)) (rem.drop k) := by
  obtain ⟨a, cap', e, h1, h2, h3⟩ := h
  injection e with e1 e2 e3
  subst e1 e3
  refine ⟨_, cap - k, by rw [List.length_drop, hL], by rw [List.length_drop]; omega, by omega, fun hp => ?_⟩
  rw [List.length_drop] at hp
  obtain ⟨g', o', e, h4, h5, h6⟩ := h3 (by omega)
  injection e with e
  injection e with e1 e2
  subst e1 e2
  exact ⟨g, o + k, rfl, h4, h5, fun j x hj => by rw [List.getElem?_drop] at hj; rw [Nat.add_assoc]; exact h6 _ _ hj⟩
theorem bytesOff_none {b k L : Nat} {a : Option Addr} {cap : Nat} {w : World} {rem : List UInt8} (hL : rem.length = L) (hk : L ≤ k) (hc : cap ≤ maxLen) : BytesOff b w (.slice a 0 cap) (rem.drop k) := by
  have h0 : (rem.drop k).length = 0 := by rw [List.length_drop]; omega
  refine ⟨a, cap, by rw [h0], by rw [h0]; omega, hc, fun hp => by omega⟩
theorem slice_rest (bs k : Nat) (w : World) (h : k < 64) : (Instr.sliceAt 92 (.pointer (some ⟨bs, 8, none⟩)) (some (.int .i64 k)) none none).run Tryd.prog w = .ok (.slice (some ⟨bs, 8 + k, none⟩) (64 - k) (64 - k)) w := by
  have hl : Tryd.prog.arrayLen 92 = 64 := by kernel_rfl
  have hs : (sizeOf (Tryd.prog.elem 92)).run Tryd.prog w = .ok 1 w := by kernel_rfl
  rw [run_sliceAt_array_l w 92 ⟨bs, 8, none⟩ (by kernel_rfl) .i64 k (by omega) (by rw [hl]; omega), hs, hl]
  simp [slicedAt, Result.andThen, Addr.add, show ¬ (64 = k) from by omega]
theorem slice_whole (bs : Nat) (w : World) : (Instr.sliceAt 92 (.pointer (some ⟨bs, 8, none⟩)) none none none).run Tryd.prog w = .ok (.slice (some ⟨bs, 8, none⟩) 64 64) w := by
  have hl : Tryd.prog.arrayLen 92 = 64 := by kernel_rfl
  have hs : (sizeOf (Tryd.prog.elem 92)).run Tryd.prog w = .ok 1 w := by kernel_rfl
  rw [run_sliceAt_array_all w 92 ⟨bs, 8, none⟩ (by kernel_rfl), hs, hl]
  simp [slicedAt, Result.andThen, Addr.add]

set_option maxHeartbeats 4000000 in
set_option maxRecDepth 100000 in
theorem write_any (m b : List UInt8) (bs : Nat) (v : Value) (w : World) (hst : StAt w bs m) (hv : BytesOff bs w v b) (hk : ∀ k, k < 64 → w.cell? ⟨2, k, none⟩ = some (.int .u32 (kAt k).toNat)) (hg : 2 ≠ bs) (hm : m.length + b.length ≤ 1099511627776) :
    Calls Tryd.prog 72 #[.pointer (some ⟨bs, 0, none⟩), v] w fun e w' => e = .returned (.int .i64 0) ∧ StAt w' bs (m ++ b) ∧ Touch bs w w' := by
  have HIS := Lib.hid (is_any w bs m hst)
  have HST := Lib.hid hst
  have HV := Lib.hid hv
  have HK := Lib.hid hk
  clear hst hv hk
  go_enter Tryd.func72, Tryd.ntmps72
  go_wp2_with fail
  refine HIS.out.mono ?_
  rintro e w1 ⟨rfl, hw1⟩
  obtain rfl := hw1.symm
  clear hw1
  go_wp2_with fail
  go_loopw [1] (fun v wr => Hid (∃ done rem : List UInt8, b = done ++ rem ∧ BytesOff bs wr v rem ∧ StAt wr bs (m ++ done) ∧ Touch bs w wr)) (fun v _ => lenV v)
  case atStart => exact ⟨[], b, rfl, HV.out, by rw [List.append_nil]; exact HST.out, Touch.of (Ext.refl w)⟩
  case round =>
    obtain ⟨done, rem, hb, hv, hs, ht⟩ := hrel.out
    clear hrel HIS HV HST
    have HV := Lib.hid hv
    obtain ⟨a, cap, rfl, h1, h2, h3⟩ := hv
    unfold maxLen at h2
    have HB := Lib.hid hb
    have HS := Lib.hid hs
    have HT := Lib.hid ht
    have hlen : b.length = done.length + rem.length := by rw [hb, List.length_append]
    by_cases h0 : rem.length = 0
    · have HF := Lib.hid (show StAt wr bs (m ++ b) from by rw [hb, List.length_eq_zero_iff.1 h0, List.append_nil]; exact hs)
      clear hb hs ht h3
      go_wp2_with fail
      go_ret
      exact ⟨rfl, HF.out, HT.out⟩
    · obtain ⟨g, o, rfl, h4, h5, h6⟩ := h3 (Nat.pos_of_ne_zero h0)
      clear h3
      obtain ⟨r, hr, hp, hbs⟩ := hs
      obtain ⟨m', hm'⟩ : ∃ m', m' = m ++ done := ⟨_, rfl⟩
      have hml : m'.length = m.length + done.length := by rw [hm', List.length_append]
      rw [← hm'] at hp hbs
      obtain ⟨n, hn⟩ : ∃ n, n = m'.length := ⟨_, rfl⟩
      obtain ⟨at', hat⟩ : ∃ x, x = n % 64 := ⟨_, rfl⟩
      have hat64 : at' < 64 := by omega
      generalize hL : rem.length = L at *
      obtain ⟨k, hk⟩ : ∃ k, Nat.min L (64 - at') = k := ⟨_, rfl⟩
      obtain ⟨hk0, hkL, hkat, hor⟩ := min_facts hk (by omega) hat64
      obtain ⟨cs, hcs⟩ : ∃ cs, cs = rem.take k := ⟨_, rfl⟩
      have hcl : cs.length = k := by rw [hcs, List.length_take]; omega
      have hbs2 : wr.heap[bs]? = some (.cells (stC (digN m' (n / 64)).list r n) 94 (0, 0)) := by rw [hn]; exact hbs
      have c72 : wr.cell? ⟨bs, 72, none⟩ = some (.int .i64 n) := (cellB hbs2).trans (stC_n _ _ _ rfl hr)
      have hmod : (n : Int) % 64 = at' := by omega
      have hsrc : ∀ j u, (cs.map bv)[j]? = some u → wr.cell? ((⟨g, o, none⟩ : Addr).add j) = some u := fun j u hj => by
        rw [List.getElem?_map, Option.map_eq_some_iff] at hj
        obtain ⟨x, hx, rfl⟩ := hj
        rw [hcs] at hx
        rw [show (⟨g, o, none⟩ : Addr).add j = ⟨g, o + j, none⟩ from by simp [Addr.add]]
        exact h6 j x (by rw [List.getElem?_take] at hx; split at hx <;> simp_all)
      have hone : ∀ u ∈ cs.map bv, u.oneCell' = true := fun u hu => by obtain ⟨x, _, rfl⟩ := List.mem_map.1 hu; rfl
      have hX := stC_copy (digN m' (n / 64)).list r n at' cs rfl hr (by rw [hcl]; exact hkat)
      obtain ⟨r', hr'⟩ : ∃ r', r' = r.take at' ++ (cs ++ r.drop (at' + cs.length)) := ⟨_, rfl⟩
      rw [← hr'] at hX
      have hsz : 8 + at' + (cs.map bv).length ≤ (stC (digN m' (n / 64)).list r n).size := by rw [List.length_map, hcl]; unfold stC; simp [hr, V8.list]; omega
      have H1 := Lib.hid hsrc
      have H2 := Lib.hid hone
      have H3 := Lib.hid hX
      have H4 := Lib.hid hsz
      have H5 := Lib.hid hbs2
      have H6 := Lib.hid (show (cs.map bv).length = k from by rw [List.length_map, hcl])
      have H7 := Lib.hid hk
      have hpart := st_part m' cs r hr hp (by rw [hcl, ← hn, ← hat]; exact hkat)
      rw [← hn, ← hat, ← hr'] at hpart
      have HR' := Lib.hid hpart.1
      have esl := fun w => slice_rest bs at' w hat64
      have ewh := slice_whole bs
      have hcap : k < cap ∨ (k = cap ∧ k = L) := by omega
      have HR := Lib.hid hr
      have HN := Lib.hid hn
      have HL := Lib.hid hL
      have HAT := Lib.hid hat
      have HM := Lib.hid hm'
      have HML := Lib.hid hml
      have HCL := Lib.hid hcl
      have HRR := Lib.hid hr'
      have HCS := Lib.hid hcs
      have HP := Lib.hid hp
      have HPART := Lib.hid hpart
      have hn40 : n ≤ 1099511627776 := by omega
      clear hsrc hone hX hsz hbs2 hk h6 hcs hbs hb ht hn hL hat hm' hml hcl hr' hp hpart hlen hr
      by_cases hf : at' + k = 64
      · rcases hcap with hcap | ⟨hcap, hkl⟩
        · go_wp2_with (refine wpList_copyT rfl (.tmp 22) (.tmp 23) 43 43 rfl 5 (by kernel_rfl) (by kernel_rfl) bs (8 + at') (64 - at') (64 - at') ⟨g, o, none⟩ L cap rfl rfl _ _ H5.out (cs.map bv) (by rw [H6.out]; exact H7.out.symm) H1.out H4.out H2.out _ H3.out k H6.out ?_; intro w1 hb1 ht1; have c73 : w1.cell? ⟨bs, 72, none⟩ = some (.int .i64 n) := (cellB hb1).trans (stC_n _ _ _ rfl HR'.out); have f73 : w1.frozen? ⟨bs, 72, none⟩ = false := frozenB hb1; have HB1 := Lib.hid hb1; have HT1 := Lib.hid ht1; clear hb1 ht1 c72; go_frame)
          have hb2 : (w1.setCell ⟨bs, 72, none⟩ (.int .i64 (n + k))).heap[bs]? = some (stObj (digN m' (n / 64)).list r' (n + k)) := by rw [setCellB HB1.out, stC_setn _ _ _ _ rfl HR'.out]; rfl
          have hT2 : Touch bs wr (w1.setCell ⟨bs, 72, none⟩ (.int .i64 (n + k))) := HT1.out.setCell _
          refine (block_any _ r' _ bs _ HR'.out hb2 (fun k hk => (cellT (HT.out.trans hT2) hg (lt_of_cell (HK.out k hk))).trans (HK.out k hk))).mono ?_
          rintro e w2 ⟨rfl, hb3, ht3⟩
          have HT3 := Lib.hid (hT2.trans ht3)
          have HF := Lib.hid (show StAt w2 bs (m ++ (done ++ cs)) from by
            rw [← List.append_assoc, ← HM.out]
            obtain ⟨q1, q2, q3⟩ := st_full (m := m') (cs := cs) HR.out HP.out (by rw [← HN.out, ← HAT.out, HCL.out]; exact hf)
            refine ⟨r', HR'.out, by rw [q2, q1, List.drop_eq_nil_of_le (by rw [List.length_append] at *; omega)]; rfl, ?_⟩
            rw [hb3, q3, ← HN.out, ← HAT.out, ← HRR.out, List.length_append, HCL.out, ← HN.out]; rfl)
          clear hb2 hT2 hb3 ht3
          go_wp2_with fail
          go_roundw
          case rel => exact ⟨done ++ cs, rem.drop k, by rw [HB.out, HCS.out, List.append_assoc, List.take_append_drop], (bytesOff_drop (HV.out.touch HT3.out) HL.out hkL), HF.out, HT.out.trans HT3.out⟩
          case measure => simp [lenV]; omega
        · subst hcap
          subst hkl
          go_wp2_with (refine wpList_copyT rfl (.tmp 22) (.tmp 23) 43 43 rfl 5 (by kernel_rfl) (by kernel_rfl) bs (8 + at') (64 - at') (64 - at') ⟨g, o, none⟩ k k rfl rfl _ _ H5.out (cs.map bv) (by rw [H6.out]; exact H7.out.symm) H1.out H4.out H2.out _ H3.out k H6.out ?_; intro w1 hb1 ht1; have c73 : w1.cell? ⟨bs, 72, none⟩ = some (.int .i64 n) := (cellB hb1).trans (stC_n _ _ _ rfl HR'.out); have f73 : w1.frozen? ⟨bs, 72, none⟩ = false := frozenB hb1; have HB1 := Lib.hid hb1; have HT1 := Lib.hid ht1; clear hb1 ht1 c72; go_frame)
          have hb2 : (w1.setCell ⟨bs, 72, none⟩ (.int .i64 (n + k))).heap[bs]? = some (stObj (digN m' (n / 64)).list r' (n + k)) := by rw [setCellB HB1.out, stC_setn _ _ _ _ rfl HR'.out]; rfl
          have hT2 : Touch bs wr (w1.setCell ⟨bs, 72, none⟩ (.int .i64 (n + k))) := HT1.out.setCell _
          refine (block_any _ r' _ bs _ HR'.out hb2 (fun k hk => (cellT (HT.out.trans hT2) hg (lt_of_cell (HK.out k hk))).trans (HK.out k hk))).mono ?_
          rintro e w2 ⟨rfl, hb3, ht3⟩
          have HT3 := Lib.hid (hT2.trans ht3)
          have HF := Lib.hid (show StAt w2 bs (m ++ (done ++ cs)) from by
            rw [← List.append_assoc, ← HM.out]
            obtain ⟨q1, q2, q3⟩ := st_full (m := m') (cs := cs) HR.out HP.out (by rw [← HN.out, ← HAT.out, HCL.out]; exact hf)
            refine ⟨r', HR'.out, by rw [q2, q1, List.drop_eq_nil_of_le (by rw [List.length_append] at *; omega)]; rfl, ?_⟩
            rw [hb3, q3, ← HN.out, ← HAT.out, ← HRR.out, List.length_append, HCL.out, ← HN.out]; rfl)
          clear hb2 hT2 hb3 ht3
          go_wp2_with fail
          go_roundw
          case rel => exact ⟨done ++ cs, rem.drop k, by rw [HB.out, HCS.out, List.append_assoc, List.take_append_drop], (bytesOff_none HL.out (Nat.le_refl _) (by unfold maxLen; omega)), HF.out, HT.out.trans HT3.out⟩
          case measure => simp [lenV]; omega
      · have hkl : k = L := by omega
        subst hkl
        rcases hcap with hcap | ⟨hcap, _⟩
        · go_wp2_with (refine wpList_copyT rfl (.tmp 22) (.tmp 23) 43 43 rfl 5 (by kernel_rfl) (by kernel_rfl) bs (8 + at') (64 - at') (64 - at') ⟨g, o, none⟩ k cap rfl rfl _ _ H5.out (cs.map bv) (by rw [H6.out]; exact H7.out.symm) H1.out H4.out H2.out _ H3.out k H6.out ?_; intro w1 hb1 ht1; have c73 : w1.cell? ⟨bs, 72, none⟩ = some (.int .i64 n) := (cellB hb1).trans (stC_n _ _ _ rfl HR'.out); have f73 : w1.frozen? ⟨bs, 72, none⟩ = false := frozenB hb1; have HB1 := Lib.hid hb1; have HT1 := Lib.hid ht1; clear hb1 ht1 c72; go_frame)
          have hb2 : (w1.setCell ⟨bs, 72, none⟩ (.int .i64 (n + k))).heap[bs]? = some (stObj (digN m' (n / 64)).list r' (n + k)) := by rw [setCellB HB1.out, stC_setn _ _ _ _ rfl HR'.out]; rfl
          have hT2 : Touch bs wr (w1.setCell ⟨bs, 72, none⟩ (.int .i64 (n + k))) := HT1.out.setCell _
          have HT3 := Lib.hid hT2
          have HF := Lib.hid (show StAt (w1.setCell ⟨bs, 72, none⟩ (.int .i64 (n + k))) bs (m ++ (done ++ cs)) from by
            rw [← List.append_assoc, ← HM.out]
            obtain ⟨q1, q2⟩ := st_less (m := m') (cs := cs) (by rw [← HN.out, ← HAT.out, HCL.out]; omega)
            refine ⟨r', HR'.out, ?_, ?_⟩
            · rw [q2, q1, ← HN.out, ← HAT.out, HCL.out]
              have := HPART.out.2
              rwa [HCL.out] at this
            · rw [hb2, q1, digN_app _ _ _ (by omega), ← HN.out, List.length_append, HCL.out, ← HN.out]; rfl)
          clear hb2 hT2
          go_roundw
          case rel => exact ⟨done ++ cs, rem.drop k, by rw [HB.out, HCS.out, List.append_assoc, List.take_append_drop], (bytesOff_none HL.out (Nat.le_refl _) (by unfold maxLen; omega)), HF.out, HT.out.trans HT3.out⟩
          case measure => simp [lenV]; omega
        · subst hcap
          go_wp2_with (refine wpList_copyT rfl (.tmp 22) (.tmp 23) 43 43 rfl 5 (by kernel_rfl) (by kernel_rfl) bs (8 + at') (64 - at') (64 - at') ⟨g, o, none⟩ k k rfl rfl _ _ H5.out (cs.map bv) (by rw [H6.out]; exact H7.out.symm) H1.out H4.out H2.out _ H3.out k H6.out ?_; intro w1 hb1 ht1; have c73 : w1.cell? ⟨bs, 72, none⟩ = some (.int .i64 n) := (cellB hb1).trans (stC_n _ _ _ rfl HR'.out); have f73 : w1.frozen? ⟨bs, 72, none⟩ = false := frozenB hb1; have HB1 := Lib.hid hb1; have HT1 := Lib.hid ht1; clear hb1 ht1 c72; go_frame)
          have hb2 : (w1.setCell ⟨bs, 72, none⟩ (.int .i64 (n + k))).heap[bs]? = some (stObj (digN m' (n / 64)).list r' (n + k)) := by rw [setCellB HB1.out, stC_setn _ _ _ _ rfl HR'.out]; rfl
          have hT2 : Touch bs wr (w1.setCell ⟨bs, 72, none⟩ (.int .i64 (n + k))) := HT1.out.setCell _
          have HT3 := Lib.hid hT2
          have HF := Lib.hid (show StAt (w1.setCell ⟨bs, 72, none⟩ (.int .i64 (n + k))) bs (m ++ (done ++ cs)) from by
            rw [← List.append_assoc, ← HM.out]
            obtain ⟨q1, q2⟩ := st_less (m := m') (cs := cs) (by rw [← HN.out, ← HAT.out, HCL.out]; omega)
            refine ⟨r', HR'.out, ?_, ?_⟩
            · rw [q2, q1, ← HN.out, ← HAT.out, HCL.out]
              have := HPART.out.2
              rwa [HCL.out] at this
            · rw [hb2, q1, digN_app _ _ _ (by omega), ← HN.out, List.length_append, HCL.out, ← HN.out]; rfl)
          clear hb2 hT2
          go_roundw
          case rel => exact ⟨done ++ cs, rem.drop k, by rw [HB.out, HCS.out, List.append_assoc, List.take_append_drop], (bytesOff_none HL.out (Nat.le_refl _) (by unfold maxLen; omega)), HF.out, HT.out.trans HT3.out⟩
          case measure => simp [lenV]; omega
end Go.Proofs.YtgojagdjlebnnaaDoor
